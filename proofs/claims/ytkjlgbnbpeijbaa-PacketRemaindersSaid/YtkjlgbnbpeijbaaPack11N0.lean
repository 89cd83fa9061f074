/- Pack11N0: printed by wip/tool/gx.py -/
import Derived.Test.YtkjlgbnbpeijbaaGhPl
namespace Go.Gh.Pack
set_option linter.unusedVariables false
set_option linter.unusedSimpArgs false

def str0 : ByteArray := ⟨#[0, 1, 2, 2, 3, 3, 3, 3, 4, 4, 4, 4, 4, 4, 4, 4, 5, 5, 5, 5, 5, 5, 5, 5, 5, 5, 5, 5, 5, 5, 5, 5, 6, 6, 6, 6, 6, 6, 6, 6, 6, 6, 6, 6, 6, 6, 6, 6, 6, 6, 6, 6, 6, 6, 6, 6, 6, 6, 6, 6, 6, 6, 6, 6, 7, 7, 7, 7, 7, 7, 7, 7, 7, 7, 7, 7, 7, 7, 7, 7, 7, 7, 7, 7, 7, 7, 7, 7, 7, 7, 7, 7, 7, 7, 7, 7, 7, 7, 7, 7, 7, 7, 7, 7, 7, 7, 7, 7, 7, 7, 7, 7, 7, 7, 7, 7, 7, 7, 7, 7, 7, 7, 7, 7, 7, 7, 7, 7, 8, 8, 8, 8, 8, 8, 8, 8, 8, 8, 8, 8, 8, 8, 8, 8, 8, 8, 8, 8, 8, 8, 8, 8, 8, 8, 8, 8, 8, 8, 8, 8, 8, 8, 8, 8, 8, 8, 8, 8, 8, 8, 8, 8, 8, 8, 8, 8, 8, 8, 8, 8, 8, 8, 8, 8, 8, 8, 8, 8, 8, 8, 8, 8, 8, 8, 8, 8, 8, 8, 8, 8, 8, 8, 8, 8, 8, 8, 8, 8, 8, 8, 8, 8, 8, 8, 8, 8, 8, 8, 8, 8, 8, 8, 8, 8, 8, 8, 8, 8, 8, 8, 8, 8, 8, 8, 8, 8, 8, 8, 8, 8, 8, 8, 8, 8, 8, 8, 8, 8, 8, 8, 8, 8, 8, 8, 8, 8]⟩
def f52 (F : Nat) (x1 : List Int) : Option (List Int) :=
  some x1

def f67 (F : Nat) (x1 x2 x3 : Int) : Option Bool :=
  if (decide (x1 ≥ x2)) = true then
    some (decide (x1 ≤ x3))
  else
    some false

inductive f26_p4_R where
  | c0 (a0 : Int)
  | c1
def f26_p4 (F : Nat) (x1 : List Int) : Nat → Int → Int → Option f26_p4_R
  | 0, _, _ => none
  | k + 1, x2, x3 =>
    if (decide (x3 < ((List.length x1 : Nat) : Int))) = true then
      Option.bind (at? x1 x3) fun x4 =>
      Option.bind (f67 F x4 1 30) fun x5 =>
      if x5 = true then
        if (decide (x4 ≤ x2)) = true then
          some (.c0 7)
        else
          f26_p4 F x1 k x4 (w64 (x3 + 1))
      else
        some (.c0 1)
    else
      some .c1
def f26 (F : Nat) (x1 : List Int) : Option Int :=
  if (((List.length x1 : Nat) : Int) == 0) = true then
    some 4
  else
  if (decide (((List.length x1 : Nat) : Int) > 5)) = true then
    some 3
  else
    Option.bind (f26_p4 F x1 F 0 0) fun
    | .c0 x6 =>
      some x6
    | .c1 =>
      some 0

def f90_p1 (F : Nat) : Nat → Int → Int → Option Int
  | 0, _, _ => none
  | k + 1, x3, x4 =>
    if (x4 != 0) = true then
      req ((x4 : Int) ≠ 0) <|
      f90_p1 F k x4 (Int.tmod x3 x4)
    else
      some x3
def f90 (F : Nat) (x1 x2 : Int) : Option Int :=
  Option.bind (f90_p1 F F x1 x2) fun x5 =>
  some x5

def f68_p1 (F : Nat) (x1 : List Int) (x2 : Int) : Nat → Int → (List Int) → Option (List Int)
  | 0, _, _ => none
  | k + 1, x5, x4 =>
    if (decide (x5 < (((Int.toNat x2) : Nat) : Int))) = true then
      req ((0 : Int) ≤ x5 ∧ (x5 : Int) < (((Int.toNat x2) : Nat) : Int)) <|
      req ((0 + (Int.toNat x5)) < List.length x4) <|
      f68_p1 F x1 x2 k (w64 (x5 + 1)) (List.set x4 (0 + (Int.toNat x5)) (-1))
    else
      some x4
def f68_p16_3 (F : Nat) (x2 x56 : Int) (x57 x81 x82 : Int) (x1 : List Int) (x55 x80 x83 : Int) (x79 : List Int) : Option Int :=
  if (decide (x83 < x81)) = true then
    req ((0 : Int) ≤ x82 ∧ (x82 : Int) < (((Int.toNat x2) : Nat) : Int)) <|
    Option.bind ((x79)[(0 + (Int.toNat x82))]?) fun x84 =>
    some x84
  else
    some x81
def f68_p13_3 (F : Nat) (x2 x56 x57 : Int) (x1 : List Int) (x55 x80 : Int) (x79 : List Int) : Nat → Int → Int → Option Int
  | 0, _, _ => none
  | k + 1, x81, x82 =>
    if (decide (x82 < x2)) = true then
      req ((0 : Int) ≤ x82 ∧ (x82 : Int) < (((Int.toNat x2) : Nat) : Int)) <|
      Option.bind ((x79)[(0 + (Int.toNat x82))]?) fun x83 =>
      if (decide (x83 ≥ 0)) = true then
        if (decide (x81 < 0)) = true then
          f68_p13_3 F x2 x56 x57 x1 x55 x80 x79 k x83 (w64 (x82 + x57))
        else
          Option.bind (f68_p16_3 F x2 x56 x57 x81 x82 x1 x55 x80 x83 x79) fun x85 =>
          f68_p13_3 F x2 x56 x57 x1 x55 x80 x79 k x85 (w64 (x82 + x57))
      else
        f68_p13_3 F x2 x56 x57 x1 x55 x80 x79 k x81 (w64 (x82 + x57))
    else
      some x81
def f68_p21_7 (F : Nat) (x2 x56 : Int) (x57 x94 x95 : Int) (x1 : List Int) (x55 x80 x96 : Int) (x93 : List Int) : Option (Int × (List Int)) :=
  if (decide (x96 < (w64 (x94 + x56)))) = true then
    req ((0 : Int) ≤ (Int.tmod (w64 (x94 + x56)) x2) ∧ ((Int.tmod (w64 (x94 + x56)) x2) : Int) < (((Int.toNat x2) : Nat) : Int)) <|
    Option.bind ((x93)[(0 + (Int.toNat (Int.tmod (w64 (x94 + x56)) x2)))]?) fun x97 =>
    some (x97, x93)
  else
    req ((0 : Int) ≤ (Int.tmod (w64 (x94 + x56)) x2) ∧ ((Int.tmod (w64 (x94 + x56)) x2) : Int) < (((Int.toNat x2) : Nat) : Int)) <|
    req ((0 + (Int.toNat (Int.tmod (w64 (x94 + x56)) x2))) < List.length x93) <|
    some ((w64 (x94 + x56)), (List.set x93 (0 + (Int.toNat (Int.tmod (w64 (x94 + x56)) x2))) (w64 (x94 + x56))))
def f68_p18_3 (F : Nat) (x2 x56 x57 : Int) (x1 : List Int) (x55 x80 : Int) : Nat → Int → Int → (List Int) → Option (List Int)
  | 0, _, _, _ => none
  | k + 1, x94, x95, x93 =>
    if (decide (x94 ≥ 0)) = true then
      req ((x57 : Int) ≠ 0) <|
      if (decide (x95 < (w64 (Int.tdiv x2 x57)))) = true then
        req ((x2 : Int) ≠ 0) <|
        req ((0 : Int) ≤ (Int.tmod (w64 (x94 + x56)) x2) ∧ ((Int.tmod (w64 (x94 + x56)) x2) : Int) < (((Int.toNat x2) : Nat) : Int)) <|
        Option.bind ((x93)[(0 + (Int.toNat (Int.tmod (w64 (x94 + x56)) x2)))]?) fun x96 =>
        if (decide (x96 ≥ 0)) = true then
          Option.bind (f68_p21_7 F x2 x56 x57 x94 x95 x1 x55 x80 x96 x93) fun (x98, x99) =>
          f68_p18_3 F x2 x56 x57 x1 x55 x80 k x98 (w64 (x95 + 1)) x99
        else
          req ((0 + (Int.toNat (Int.tmod (w64 (x94 + x56)) x2))) < List.length x93) <|
          f68_p18_3 F x2 x56 x57 x1 x55 x80 k (w64 (x94 + x56)) (w64 (x95 + 1)) (List.set x93 (0 + (Int.toNat (Int.tmod (w64 (x94 + x56)) x2))) (w64 (x94 + x56)))
      else
        some x93
    else
      some x93
def f68_p9_1 (F : Nat) (x2 x56 x57 : Int) (x1 : List Int) (x55 : Int) : Nat → Int → (List Int) → Option (List Int)
  | 0, _, _ => none
  | k + 1, x80, x79 =>
    if (decide (x80 < x57)) = true then
      Option.bind (f68_p13_3 F x2 x56 x57 x1 x55 x80 x79 F (-1) x80) fun x86 =>
      Option.bind (f68_p18_3 F x2 x56 x57 x1 x55 x80 F x86 1 x79) fun x100 =>
      f68_p9_1 F x2 x56 x57 x1 x55 k (w64 (x80 + 1)) x100
    else
      some x79
def f68_p5 (F : Nat) (x2 : Int) (x1 : List Int) : Nat → Int → (List Int) → Option (List Int)
  | 0, _, _ => none
  | k + 1, x55, x54 =>
    if (decide (x55 < ((List.length x1 : Nat) : Int))) = true then
      Option.bind (at? x1 x55) fun x56 =>
      Option.bind (f90 F x56 x2) fun x57 =>
      Option.bind (f68_p9_1 F x2 x56 x57 x1 x55 F 0 x54) fun x101 =>
      f68_p5 F x2 x1 k (w64 (x55 + 1)) x101
    else
      some x54
def f68 (F : Nat) (x1 : List Int) (x2 : Int) : Option (List Int) :=
  req ((0 : Int) ≤ x2 ∧ (x2 : Int) ≤ x2 ∧ (x2 : Int) ≤ 1099511627776) <|
  Option.bind (f68_p1 F x1 x2 F 0 (List.replicate (Int.toNat x2) (0 : Int))) fun x6 =>
  req ((0 : Int) ≤ 0 ∧ (0 : Int) < (((Int.toNat x2) : Nat) : Int)) <|
  req (0 < List.length x6) <|
  Option.bind (f68_p5 F x2 x1 F 0 (List.set x6 0 0)) fun x102 =>
  req ((0 + (Int.toNat x2)) ≤ List.length x102) <|
  some (List.drop 0 (List.take (0 + (Int.toNat x2)) x102))

inductive f105_p1_R where
  | c0 (a0 : Int)
  | c1
def f105_p1 (F : Nat) (x1 : List Int) (x2 : Int) : Nat → Int → Option f105_p1_R
  | 0, _ => none
  | k + 1, x3 =>
    if (decide (x3 < ((List.length x1 : Nat) : Int))) = true then
      Option.bind (at? x1 x3) fun x4 =>
      if (x2 == x4) = true then
        some (.c0 x3)
      else
        f105_p1 F x1 x2 k (w64 (x3 + 1))
    else
      some .c1
def f105 (F : Nat) (x1 : List Int) (x2 : Int) : Option Int :=
  Option.bind (f105_p1 F x1 x2 F 0) fun
  | .c0 x5 =>
    some x5
  | .c1 =>
    some (-1)

def f91 (F : Nat) (x1 : List Int) (x2 : Int) : Option Bool :=
  Option.bind (f105 F x1 x2) fun x3 =>
  some (decide (x3 ≥ 0))

def f103_p0 (F : Nat) (x1 : Int) : Option (Int × Int) :=
  if (decide (x1 ≥ 4294967296)) = true then
    some ((iShr .u64 x1 32), 32)
  else
    some (x1, 0)
def f103_p1 (F : Nat) (x2 x3 : Int) : Option (Int × Int) :=
  if (decide (x2 ≥ 65536)) = true then
    some ((iShr .u64 x2 16), (w64 (x3 + 16)))
  else
    some (x2, x3)
def f103_p2 (F : Nat) (x4 x5 : Int) : Option (Int × Int) :=
  if (decide (x4 ≥ 256)) = true then
    some ((iShr .u64 x4 8), (w64 (x5 + 8)))
  else
    some (x4, x5)
def f103 (F : Nat) (x1 : Int) : Option Int :=
  Option.bind (f103_p0 F x1) fun (x2, x3) =>
  Option.bind (f103_p1 F x2 x3) fun (x4, x5) =>
  Option.bind (f103_p2 F x4 x5) fun (x6, x7) =>
  req ((0 : Int) ≤ (IntKind.wrap .u8 (x6)) ∧ ((IntKind.wrap .u8 (x6)) : Int) < ((256 : Nat) : Int)) <|
  some (w64 (x7 + (w64 ((strAt str0 (IntKind.wrap .u8 (x6)))))))

def f84 (F : Nat) (x1 : Int) : Option Int :=
  Option.bind (f103 F x1) fun x2 =>
  some x2

def f111 (F : Nat) (x1 : Int) : Option Bool :=
  some (x1 != x1)

def f99 (F : Nat) (x1 x2 : Int) : Option Bool :=
  Option.bind (f111 F x1) fun x3 =>
  if x3 = true then
    Option.bind (f111 F x2) fun x4 =>
    if x4 = true then
      some (decide (x1 < x2))
    else
      some true
  else
    some (decide (x1 < x2))

def f93_p5_1 (F : Nat) (x1 x2 : Nat) (x3 x4 x18 : Int) : Nat → Int → (List Int) → Option (List Int)
  | 0, _, _ => none
  | k + 1, x24, x23 =>
    if (decide (x24 > x3)) = true then
      req ((0 : Int) ≤ x24 ∧ (x24 : Int) < ((x2 : Nat) : Int)) <|
      Option.bind ((x23)[(x1 + (Int.toNat x24))]?) fun x25 =>
      req ((0 : Int) ≤ (w64 (x24 - 1)) ∧ ((w64 (x24 - 1)) : Int) < ((x2 : Nat) : Int)) <|
      Option.bind ((x23)[(x1 + (Int.toNat (w64 (x24 - 1))))]?) fun x26 =>
      Option.bind (f99 F x25 x26) fun x27 =>
      if x27 = true then
        req ((x1 + (Int.toNat x24)) < List.length x23) <|
        req ((x1 + (Int.toNat (w64 (x24 - 1)))) < List.length (List.set x23 (x1 + (Int.toNat x24)) x26)) <|
        f93_p5_1 F x1 x2 x3 x4 x18 k (w64 (x24 - 1)) (List.set (List.set x23 (x1 + (Int.toNat x24)) x26) (x1 + (Int.toNat (w64 (x24 - 1)))) x25)
      else
        some x23
    else
      some x23
def f93_p1 (F : Nat) (x1 x2 : Nat) (x3 x4 : Int) : Nat → Int → (List Int) → Option (List Int)
  | 0, _, _ => none
  | k + 1, x18, x17 =>
    if (decide (x18 < x4)) = true then
      Option.bind (f93_p5_1 F x1 x2 x3 x4 x18 F x18 x17) fun x28 =>
      f93_p1 F x1 x2 x3 x4 k (w64 (x18 + 1)) x28
    else
      some x17
def f93 (F : Nat) (x1 x2 : Nat) (x3 x4 : Int) (x5 : List Int) : Option (List Int) :=
  Option.bind (f93_p1 F x1 x2 x3 x4 F (w64 (x3 + 1)) x5) fun x29 =>
  some x29

def f106_p4_1 (F : Nat) (x1 x2 : Nat) (x4 x5 x16 : Int) (x19 : Bool) (x15 : List Int) : Option Int :=
  if x19 = true then
    some (w64 ((w64 ((w64 (2 * x16)) + 1)) + 1))
  else
    some (w64 ((w64 (2 * x16)) + 1))
inductive f106_p1_R where
  | c0 (a0 : List Int)
  | c1 (a0 : List Int)
def f106_p1 (F : Nat) (x1 x2 : Nat) (x4 x5 : Int) : Nat → Int → (List Int) → Option f106_p1_R
  | 0, _, _ => none
  | k + 1, x16, x15 =>
    if (decide ((w64 ((w64 (2 * x16)) + 1)) ≥ x4)) = true then
      some (.c0 x15)
    else
    if (decide ((w64 ((w64 ((w64 (2 * x16)) + 1)) + 1)) < x4)) = true then
      req ((0 : Int) ≤ (w64 (x5 + (w64 ((w64 (2 * x16)) + 1)))) ∧ ((w64 (x5 + (w64 ((w64 (2 * x16)) + 1)))) : Int) < ((x2 : Nat) : Int)) <|
      Option.bind ((x15)[(x1 + (Int.toNat (w64 (x5 + (w64 ((w64 (2 * x16)) + 1))))))]?) fun x17 =>
      req ((0 : Int) ≤ (w64 ((w64 (x5 + (w64 ((w64 (2 * x16)) + 1)))) + 1)) ∧ ((w64 ((w64 (x5 + (w64 ((w64 (2 * x16)) + 1)))) + 1)) : Int) < ((x2 : Nat) : Int)) <|
      Option.bind ((x15)[(x1 + (Int.toNat (w64 ((w64 (x5 + (w64 ((w64 (2 * x16)) + 1)))) + 1))))]?) fun x18 =>
      Option.bind (f99 F x17 x18) fun x19 =>
      Option.bind (f106_p4_1 F x1 x2 x4 x5 x16 x19 x15) fun x20 =>
      req ((0 : Int) ≤ (w64 (x5 + x16)) ∧ ((w64 (x5 + x16)) : Int) < ((x2 : Nat) : Int)) <|
      Option.bind ((x15)[(x1 + (Int.toNat (w64 (x5 + x16))))]?) fun x21 =>
      req ((0 : Int) ≤ (w64 (x5 + x20)) ∧ ((w64 (x5 + x20)) : Int) < ((x2 : Nat) : Int)) <|
      Option.bind ((x15)[(x1 + (Int.toNat (w64 (x5 + x20))))]?) fun x22 =>
      Option.bind (f99 F x21 x22) fun x23 =>
      if x23 = true then
        req ((x1 + (Int.toNat (w64 (x5 + x16)))) < List.length x15) <|
        req ((x1 + (Int.toNat (w64 (x5 + x20)))) < List.length (List.set x15 (x1 + (Int.toNat (w64 (x5 + x16)))) x22)) <|
        f106_p1 F x1 x2 x4 x5 k x20 (List.set (List.set x15 (x1 + (Int.toNat (w64 (x5 + x16)))) x22) (x1 + (Int.toNat (w64 (x5 + x20)))) x21)
      else
        some (.c1 x15)
    else
      req ((0 : Int) ≤ (w64 (x5 + x16)) ∧ ((w64 (x5 + x16)) : Int) < ((x2 : Nat) : Int)) <|
      Option.bind ((x15)[(x1 + (Int.toNat (w64 (x5 + x16))))]?) fun x24 =>
      req ((0 : Int) ≤ (w64 (x5 + (w64 ((w64 (2 * x16)) + 1)))) ∧ ((w64 (x5 + (w64 ((w64 (2 * x16)) + 1)))) : Int) < ((x2 : Nat) : Int)) <|
      Option.bind ((x15)[(x1 + (Int.toNat (w64 (x5 + (w64 ((w64 (2 * x16)) + 1))))))]?) fun x25 =>
      Option.bind (f99 F x24 x25) fun x26 =>
      if x26 = true then
        req ((x1 + (Int.toNat (w64 (x5 + x16)))) < List.length x15) <|
        req ((x1 + (Int.toNat (w64 (x5 + (w64 ((w64 (2 * x16)) + 1)))))) < List.length (List.set x15 (x1 + (Int.toNat (w64 (x5 + x16)))) x25)) <|
        f106_p1 F x1 x2 x4 x5 k (w64 ((w64 (2 * x16)) + 1)) (List.set (List.set x15 (x1 + (Int.toNat (w64 (x5 + x16)))) x25) (x1 + (Int.toNat (w64 (x5 + (w64 ((w64 (2 * x16)) + 1)))))) x24)
      else
        some (.c1 x15)
def f106 (F : Nat) (x1 x2 : Nat) (x3 x4 x5 : Int) (x6 : List Int) : Option (List Int) :=
  Option.bind (f106_p1 F x1 x2 x4 x5 F x3 x6) fun
  | .c0 x27 =>
    some x27
  | .c1 x28 =>
    some x28

def f94_p1 (F : Nat) (x1 x2 : Nat) (x3 x4 : Int) : Nat → Int → (List Int) → Option (List Int)
  | 0, _, _ => none
  | k + 1, x9, x8 =>
    if (decide (x9 ≥ 0)) = true then
      Option.bind (f106 F x1 x2 x9 (w64 (x4 - x3)) x3 x8) fun x10 =>
      f94_p1 F x1 x2 x3 x4 k (w64 (x9 - 1)) x10
    else
      some x8
def f94_p5 (F : Nat) (x1 x2 : Nat) (x3 : Int) : Nat → Int → (List Int) → Option (List Int)
  | 0, _, _ => none
  | k + 1, x17, x16 =>
    if (decide (x17 ≥ 0)) = true then
      req ((0 : Int) ≤ (w64 (x3 + x17)) ∧ ((w64 (x3 + x17)) : Int) < ((x2 : Nat) : Int)) <|
      Option.bind ((x16)[(x1 + (Int.toNat (w64 (x3 + x17))))]?) fun x18 =>
      req ((0 : Int) ≤ x3 ∧ (x3 : Int) < ((x2 : Nat) : Int)) <|
      Option.bind ((x16)[(x1 + (Int.toNat x3))]?) fun x19 =>
      req ((x1 + (Int.toNat x3)) < List.length x16) <|
      req ((x1 + (Int.toNat (w64 (x3 + x17)))) < List.length (List.set x16 (x1 + (Int.toNat x3)) x18)) <|
      Option.bind (f106 F x1 x2 0 x17 x3 (List.set (List.set x16 (x1 + (Int.toNat x3)) x18) (x1 + (Int.toNat (w64 (x3 + x17)))) x19)) fun x20 =>
      f94_p5 F x1 x2 x3 k (w64 (x17 - 1)) x20
    else
      some x16
def f94 (F : Nat) (x1 x2 : Nat) (x3 x4 : Int) (x5 : List Int) : Option (List Int) :=
  Option.bind (f94_p1 F x1 x2 x3 x4 F (w64 (Int.tdiv (w64 ((w64 (x4 - x3)) - 1)) 2)) x5) fun x11 =>
  Option.bind (f94_p5 F x1 x2 x3 F (w64 ((w64 (x4 - x3)) - 1)) x11) fun x21 =>
  some x21

def f107 (F : Nat) (x1 : Int) : Option Int :=
  Option.bind (f84 F (IntKind.wrap .u64 (x1))) fun x2 =>
  req ((0 : Int) ≤ x2) <|
  some (iShl .u64 1 x2)

def f108 (F : Nat) (x1 : Int) : Option (Int × Int) :=
  some ((iXor .u64 (iXor .u64 (iXor .u64 x1 (iShl .u64 x1 13)) (iShr .u64 (iXor .u64 x1 (iShl .u64 x1 13)) 7)) (iShl .u64 (iXor .u64 (iXor .u64 x1 (iShl .u64 x1 13)) (iShr .u64 (iXor .u64 x1 (iShl .u64 x1 13)) 7)) 17)), (iXor .u64 (iXor .u64 (iXor .u64 x1 (iShl .u64 x1 13)) (iShr .u64 (iXor .u64 x1 (iShl .u64 x1 13)) 7)) (iShl .u64 (iXor .u64 (iXor .u64 x1 (iShl .u64 x1 13)) (iShr .u64 (iXor .u64 x1 (iShl .u64 x1 13)) 7)) 17)))

def f95_p5_1 (F : Nat) (x1 x2 : Nat) (x3 x4 : Int) (x6 x14 x16 : Int) (x13 : List Int) (x17 : Int) : Option Int :=
  if (decide ((w64 ((iAnd .u64 x16 (IntKind.wrap .u64 (x6 - 1))))) ≥ (w64 (x4 - x3)))) = true then
    some (w64 ((w64 ((iAnd .u64 x16 (IntKind.wrap .u64 (x6 - 1))))) - (w64 (x4 - x3))))
  else
    some (w64 ((iAnd .u64 x16 (IntKind.wrap .u64 (x6 - 1)))))
def f95_p2 (F : Nat) (x1 x2 : Nat) (x3 x4 x6 : Int) : Nat → Int → (List Int) → Int → Option (List Int)
  | 0, _, _, _ => none
  | k + 1, x14, x13, x15 =>
    if (decide (x14 ≤ (w64 ((w64 (x3 + (w64 ((w64 (Int.tdiv (w64 (x4 - x3)) 4)) * 2)))) + 1)))) = true then
      Option.bind (f108 F x15) fun (x16, x17) =>
      Option.bind (f95_p5_1 F x1 x2 x3 x4 x6 x14 x16 x13 x17) fun x18 =>
      req ((0 : Int) ≤ (w64 (x3 + x18)) ∧ ((w64 (x3 + x18)) : Int) < ((x2 : Nat) : Int)) <|
      Option.bind ((x13)[(x1 + (Int.toNat (w64 (x3 + x18))))]?) fun x19 =>
      req ((0 : Int) ≤ x14 ∧ (x14 : Int) < ((x2 : Nat) : Int)) <|
      Option.bind ((x13)[(x1 + (Int.toNat x14))]?) fun x20 =>
      req ((x1 + (Int.toNat x14)) < List.length x13) <|
      req ((x1 + (Int.toNat (w64 (x3 + x18)))) < List.length (List.set x13 (x1 + (Int.toNat x14)) x19)) <|
      f95_p2 F x1 x2 x3 x4 x6 k (w64 (x14 + 1)) (List.set (List.set x13 (x1 + (Int.toNat x14)) x19) (x1 + (Int.toNat (w64 (x3 + x18)))) x20) x17
    else
      some x13
def f95_p0 (F : Nat) (x1 x2 : Nat) (x3 x4 : Int) (x5 : List Int) : Option (List Int) :=
  if (decide ((w64 (x4 - x3)) ≥ 8)) = true then
    Option.bind (f107 F (w64 (x4 - x3))) fun x6 =>
    Option.bind (f95_p2 F x1 x2 x3 x4 x6 F (w64 ((w64 (x3 + (w64 ((w64 (Int.tdiv (w64 (x4 - x3)) 4)) * 2)))) - 1)) x5 (IntKind.wrap .u64 ((w64 (x4 - x3))))) fun x21 =>
    some x21
  else
    some x5
def f95 (F : Nat) (x1 x2 : Nat) (x3 x4 : Int) (x5 : List Int) : Option (List Int) :=
  Option.bind (f95_p0 F x1 x2 x3 x4 x5) fun x22 =>
  some x22

def f112 (F : Nat) (x1 x2 : Nat) (x3 x4 : Int) (x5 : List Int) (x6 : Int) : Option (Int × Int × Int) :=
  req ((0 : Int) ≤ x4 ∧ (x4 : Int) < ((x2 : Nat) : Int)) <|
  Option.bind ((x5)[(x1 + (Int.toNat x4))]?) fun x7 =>
  req ((0 : Int) ≤ x3 ∧ (x3 : Int) < ((x2 : Nat) : Int)) <|
  Option.bind ((x5)[(x1 + (Int.toNat x3))]?) fun x8 =>
  Option.bind (f99 F x7 x8) fun x9 =>
  if x9 = true then
    some (x4, x3, (w64 (x6 + 1)))
  else
    some (x3, x4, x6)

def f110 (F : Nat) (x1 x2 : Nat) (x3 x4 x5 : Int) (x6 : List Int) (x7 : Int) : Option (Int × Int) :=
  Option.bind (f112 F x1 x2 x3 x4 x6 x7) fun (x8, x9, x10) =>
  Option.bind (f112 F x1 x2 x9 x5 x6 x10) fun (x11, x12, x13) =>
  Option.bind (f112 F x1 x2 x8 x11 x6 x13) fun (x14, x15, x16) =>
  some (x15, x16)

def f109 (F : Nat) (x1 x2 : Nat) (x3 : Int) (x4 : List Int) (x5 : Int) : Option (Int × Int) :=
  Option.bind (f110 F x1 x2 (w64 (x3 - 1)) x3 (w64 (x3 + 1)) x4 x5) fun (x6, x7) =>
  some (x6, x7)

def f96_p1 (F : Nat) (x1 x2 : Nat) (x3 x4 : Int) (x5 : List Int) : Option (Int × Int × Int × Int) :=
  if (decide ((w64 (x4 - x3)) ≥ 50)) = true then
    Option.bind (f109 F x1 x2 (w64 (x3 + (w64 ((w64 (Int.tdiv (w64 (x4 - x3)) 4)) * 1)))) x5 0) fun (x6, x7) =>
    Option.bind (f109 F x1 x2 (w64 (x3 + (w64 ((w64 (Int.tdiv (w64 (x4 - x3)) 4)) * 2)))) x5 x7) fun (x8, x9) =>
    Option.bind (f109 F x1 x2 (w64 (x3 + (w64 ((w64 (Int.tdiv (w64 (x4 - x3)) 4)) * 3)))) x5 x9) fun (x10, x11) =>
    some (x6, x8, x10, x11)
  else
    some ((w64 (x3 + (w64 ((w64 (Int.tdiv (w64 (x4 - x3)) 4)) * 1)))), (w64 (x3 + (w64 ((w64 (Int.tdiv (w64 (x4 - x3)) 4)) * 2)))), (w64 (x3 + (w64 ((w64 (Int.tdiv (w64 (x4 - x3)) 4)) * 3)))), 0)
def f96_p0 (F : Nat) (x1 x2 : Nat) (x4 x3 : Int) (x5 : List Int) : Option (Int × Int) :=
  if (decide ((w64 (x4 - x3)) ≥ 8)) = true then
    Option.bind (f96_p1 F x1 x2 x3 x4 x5) fun (x12, x13, x14, x15) =>
    Option.bind (f110 F x1 x2 x12 x13 x14 x5 x15) fun (x16, x17) =>
    some (x16, x17)
  else
    some ((w64 (x3 + (w64 ((w64 (Int.tdiv (w64 (x4 - x3)) 4)) * 2)))), 0)
def f96 (F : Nat) (x1 x2 : Nat) (x3 x4 : Int) (x5 : List Int) : Option (Int × Int) :=
  Option.bind (f96_p0 F x1 x2 x4 x3 x5) fun (x18, x19) =>
  if (x19 == 0) = true then
    some (x18, 1)
  else
  if (x19 == 12) = true then
    some (x18, 2)
  else
    some (x18, 0)

def f97_p1 (F : Nat) (x1 x2 : Nat) : Nat → Int → Int → (List Int) → Option (List Int)
  | 0, _, _, _ => none
  | k + 1, x11, x12, x10 =>
    if (decide (x11 < x12)) = true then
      req ((0 : Int) ≤ x12 ∧ (x12 : Int) < ((x2 : Nat) : Int)) <|
      Option.bind ((x10)[(x1 + (Int.toNat x12))]?) fun x13 =>
      req ((0 : Int) ≤ x11 ∧ (x11 : Int) < ((x2 : Nat) : Int)) <|
      Option.bind ((x10)[(x1 + (Int.toNat x11))]?) fun x14 =>
      req ((x1 + (Int.toNat x11)) < List.length x10) <|
      req ((x1 + (Int.toNat x12)) < List.length (List.set x10 (x1 + (Int.toNat x11)) x13)) <|
      f97_p1 F x1 x2 k (w64 (x11 + 1)) (w64 (x12 - 1)) (List.set (List.set x10 (x1 + (Int.toNat x11)) x13) (x1 + (Int.toNat x12)) x14)
    else
      some x10
def f97 (F : Nat) (x1 x2 : Nat) (x3 x4 : Int) (x5 : List Int) : Option (List Int) :=
  Option.bind (f97_p1 F x1 x2 F x3 (w64 (x4 - 1)) x5) fun x15 =>
  some x15

def f98_p5_1 (F : Nat) (x1 x2 : Nat) (x3 x4 x39 : Int) (x37 : List Int) : Nat → Int → Option Int
  | 0, _ => none
  | k + 1, x40 =>
    if (decide (x40 < x4)) = true then
      req ((0 : Int) ≤ x40 ∧ (x40 : Int) < ((x2 : Nat) : Int)) <|
      Option.bind ((x37)[(x1 + (Int.toNat x40))]?) fun x41 =>
      req ((0 : Int) ≤ (w64 (x40 - 1)) ∧ ((w64 (x40 - 1)) : Int) < ((x2 : Nat) : Int)) <|
      Option.bind ((x37)[(x1 + (Int.toNat (w64 (x40 - 1))))]?) fun x42 =>
      Option.bind (f99 F x41 x42) fun x43 =>
      if x43 = true then
        some x40
      else
        f98_p5_1 F x1 x2 x3 x4 x39 x37 k (w64 (x40 + 1))
    else
      some x40
def f98_p12_1 (F : Nat) (x1 x2 : Nat) (x3 x4 : Int) (x44 x39 : Int) : Nat → Int → (List Int) → Option (List Int)
  | 0, _, _ => none
  | k + 1, x52, x51 =>
    if (decide (x52 ≥ 1)) = true then
      req ((0 : Int) ≤ x52 ∧ (x52 : Int) < ((x2 : Nat) : Int)) <|
      Option.bind ((x51)[(x1 + (Int.toNat x52))]?) fun x53 =>
      req ((0 : Int) ≤ (w64 (x52 - 1)) ∧ ((w64 (x52 - 1)) : Int) < ((x2 : Nat) : Int)) <|
      Option.bind ((x51)[(x1 + (Int.toNat (w64 (x52 - 1))))]?) fun x54 =>
      Option.bind (f99 F x53 x54) fun x55 =>
      if x55 = true then
        req ((x1 + (Int.toNat x52)) < List.length x51) <|
        req ((x1 + (Int.toNat (w64 (x52 - 1)))) < List.length (List.set x51 (x1 + (Int.toNat x52)) x54)) <|
        f98_p12_1 F x1 x2 x3 x4 x44 x39 k (w64 (x52 - 1)) (List.set (List.set x51 (x1 + (Int.toNat x52)) x54) (x1 + (Int.toNat (w64 (x52 - 1)))) x53)
      else
        some x51
    else
      some x51
def f98_p10_1 (F : Nat) (x1 x2 : Nat) (x3 x4 : Int) (x44 x39 : Int) (x37 : List Int) (x45 x46 : Int) : Option (List Int) :=
  if (decide ((w64 (x44 - x3)) ≥ 2)) = true then
    Option.bind (f98_p12_1 F x1 x2 x3 x4 x44 x39 F (w64 (x44 - 1)) (List.set (List.set x37 (x1 + (Int.toNat x44)) x45) (x1 + (Int.toNat (w64 (x44 - 1)))) x46)) fun x56 =>
    some x56
  else
    some (List.set (List.set x37 (x1 + (Int.toNat x44)) x45) (x1 + (Int.toNat (w64 (x44 - 1)))) x46)
def f98_p18_1 (F : Nat) (x1 x2 : Nat) (x3 x4 : Int) (x44 x39 : Int) : Nat → Int → (List Int) → Option (List Int)
  | 0, _, _ => none
  | k + 1, x63, x62 =>
    if (decide (x63 < x4)) = true then
      req ((0 : Int) ≤ x63 ∧ (x63 : Int) < ((x2 : Nat) : Int)) <|
      Option.bind ((x62)[(x1 + (Int.toNat x63))]?) fun x64 =>
      req ((0 : Int) ≤ (w64 (x63 - 1)) ∧ ((w64 (x63 - 1)) : Int) < ((x2 : Nat) : Int)) <|
      Option.bind ((x62)[(x1 + (Int.toNat (w64 (x63 - 1))))]?) fun x65 =>
      Option.bind (f99 F x64 x65) fun x66 =>
      if x66 = true then
        req ((x1 + (Int.toNat x63)) < List.length x62) <|
        req ((x1 + (Int.toNat (w64 (x63 - 1)))) < List.length (List.set x62 (x1 + (Int.toNat x63)) x65)) <|
        f98_p18_1 F x1 x2 x3 x4 x44 x39 k (w64 (x63 + 1)) (List.set (List.set x62 (x1 + (Int.toNat x63)) x65) (x1 + (Int.toNat (w64 (x63 - 1)))) x64)
      else
        some x62
    else
      some x62
def f98_p16_1 (F : Nat) (x1 x2 : Nat) (x3 x4 : Int) (x44 x39 : Int) (x57 : List Int) : Option (List Int) :=
  if (decide ((w64 (x4 - x44)) ≥ 2)) = true then
    Option.bind (f98_p18_1 F x1 x2 x3 x4 x44 x39 F (w64 (x44 + 1)) x57) fun x67 =>
    some x67
  else
    some x57
inductive f98_p1_8_R where
  | c0 (a0 : Bool) (a1 : List Int)
  | c1 (a0 : List Int)
def f98_p1_8 (F : Nat) (x1 x2 : Nat) (x3 x4 : Int) : Nat → Int → Int → (List Int) → Option f98_p1_8_R
  | 0, _, _, _ => none
  | k + 1, x38, x39, x37 =>
    if (decide (x39 < 5)) = true then
      Option.bind (f98_p5_1 F x1 x2 x3 x4 x39 x37 F x38) fun x44 =>
      if (x44 == x4) = true then
        some (.c0 true x37)
      else
      if (decide ((w64 (x4 - x3)) < 50)) = true then
        some (.c0 false x37)
      else
        req ((0 : Int) ≤ (w64 (x44 - 1)) ∧ ((w64 (x44 - 1)) : Int) < ((x2 : Nat) : Int)) <|
        Option.bind ((x37)[(x1 + (Int.toNat (w64 (x44 - 1))))]?) fun x45 =>
        req ((0 : Int) ≤ x44 ∧ (x44 : Int) < ((x2 : Nat) : Int)) <|
        Option.bind ((x37)[(x1 + (Int.toNat x44))]?) fun x46 =>
        req ((x1 + (Int.toNat x44)) < List.length x37) <|
        req ((x1 + (Int.toNat (w64 (x44 - 1)))) < List.length (List.set x37 (x1 + (Int.toNat x44)) x45)) <|
        Option.bind (f98_p10_1 F x1 x2 x3 x4 x44 x39 x37 x45 x46) fun x57 =>
        Option.bind (f98_p16_1 F x1 x2 x3 x4 x44 x39 x57) fun x68 =>
        f98_p1_8 F x1 x2 x3 x4 k x44 (w64 (x39 + 1)) x68
    else
      some (.c1 x37)
def f98 (F : Nat) (x1 x2 : Nat) (x3 x4 : Int) (x5 : List Int) : Option (Bool × (List Int)) :=
  Option.bind (f98_p1_8 F x1 x2 x3 x4 F (w64 (x3 + 1)) 0 x5) fun
  | .c0 x69 x70 =>
    some (x69, x70)
  | .c1 x71 =>
    some (false, x71)

def f101_p1 (F : Nat) (x1 x2 : Nat) (x3 x4 : Int) (x6 : List Int) (x7 x5 x8 : Int) : Nat → Int → Option Int
  | 0, _ => none
  | k + 1, x9 =>
    if (decide (x9 ≤ (w64 (x4 - 1)))) = true then
      req ((0 : Int) ≤ x9 ∧ (x9 : Int) < ((x2 : Nat) : Int)) <|
      Option.bind (((List.set (List.set x6 (x1 + (Int.toNat x3)) x7) (x1 + (Int.toNat x5)) x8))[(x1 + (Int.toNat x9))]?) fun x10 =>
      req ((0 : Int) ≤ x3 ∧ (x3 : Int) < ((x2 : Nat) : Int)) <|
      Option.bind (((List.set (List.set x6 (x1 + (Int.toNat x3)) x7) (x1 + (Int.toNat x5)) x8))[(x1 + (Int.toNat x3))]?) fun x11 =>
      Option.bind (f99 F x10 x11) fun x12 =>
      if x12 = true then
        f101_p1 F x1 x2 x3 x4 x6 x7 x5 x8 k (w64 (x9 + 1))
      else
        some x9
    else
      some x9
def f101_p5 (F : Nat) (x1 x2 : Nat) (x3 x13 : Int) (x6 : List Int) (x7 x5 x8 : Int) : Nat → Int → Option Int
  | 0, _ => none
  | k + 1, x14 =>
    if (decide (x13 ≤ x14)) = true then
      req ((0 : Int) ≤ x14 ∧ (x14 : Int) < ((x2 : Nat) : Int)) <|
      Option.bind (((List.set (List.set x6 (x1 + (Int.toNat x3)) x7) (x1 + (Int.toNat x5)) x8))[(x1 + (Int.toNat x14))]?) fun x15 =>
      req ((0 : Int) ≤ x3 ∧ (x3 : Int) < ((x2 : Nat) : Int)) <|
      Option.bind (((List.set (List.set x6 (x1 + (Int.toNat x3)) x7) (x1 + (Int.toNat x5)) x8))[(x1 + (Int.toNat x3))]?) fun x16 =>
      Option.bind (f99 F x15 x16) fun x17 =>
      if x17 = true then
        some x14
      else
        f101_p5 F x1 x2 x3 x13 x6 x7 x5 x8 k (w64 (x14 - 1))
    else
      some x14
def f101_p13_1 (F : Nat) (x1 x2 : Nat) (x3 x39 : Int) (x37 : List Int) : Nat → Int → Option Int
  | 0, _ => none
  | k + 1, x40 =>
    if (decide (x40 ≤ x39)) = true then
      req ((0 : Int) ≤ x40 ∧ (x40 : Int) < ((x2 : Nat) : Int)) <|
      Option.bind ((x37)[(x1 + (Int.toNat x40))]?) fun x41 =>
      req ((0 : Int) ≤ x3 ∧ (x3 : Int) < ((x2 : Nat) : Int)) <|
      Option.bind ((x37)[(x1 + (Int.toNat x3))]?) fun x42 =>
      Option.bind (f99 F x41 x42) fun x43 =>
      if x43 = true then
        f101_p13_1 F x1 x2 x3 x39 x37 k (w64 (x40 + 1))
      else
        some x40
    else
      some x40
def f101_p17_1 (F : Nat) (x1 x2 : Nat) (x3 x44 : Int) (x37 : List Int) : Nat → Int → Option Int
  | 0, _ => none
  | k + 1, x45 =>
    if (decide (x44 ≤ x45)) = true then
      req ((0 : Int) ≤ x45 ∧ (x45 : Int) < ((x2 : Nat) : Int)) <|
      Option.bind ((x37)[(x1 + (Int.toNat x45))]?) fun x46 =>
      req ((0 : Int) ≤ x3 ∧ (x3 : Int) < ((x2 : Nat) : Int)) <|
      Option.bind ((x37)[(x1 + (Int.toNat x3))]?) fun x47 =>
      Option.bind (f99 F x46 x47) fun x48 =>
      if x48 = true then
        some x45
      else
        f101_p17_1 F x1 x2 x3 x44 x37 k (w64 (x45 - 1))
    else
      some x45
def f101_p10 (F : Nat) (x1 x2 : Nat) (x3 : Int) : Nat → Int → Int → (List Int) → Option (Int × (List Int))
  | 0, _, _, _ => none
  | k + 1, x38, x39, x37 =>
    Option.bind (f101_p13_1 F x1 x2 x3 x39 x37 F x38) fun x44 =>
    Option.bind (f101_p17_1 F x1 x2 x3 x44 x37 F x39) fun x49 =>
    if (decide (x44 > x49)) = true then
      some (x49, x37)
    else
      req ((0 : Int) ≤ x49 ∧ (x49 : Int) < ((x2 : Nat) : Int)) <|
      Option.bind ((x37)[(x1 + (Int.toNat x49))]?) fun x50 =>
      req ((0 : Int) ≤ x44 ∧ (x44 : Int) < ((x2 : Nat) : Int)) <|
      Option.bind ((x37)[(x1 + (Int.toNat x44))]?) fun x51 =>
      req ((x1 + (Int.toNat x44)) < List.length x37) <|
      req ((x1 + (Int.toNat x49)) < List.length (List.set x37 (x1 + (Int.toNat x44)) x50)) <|
      f101_p10 F x1 x2 x3 k (w64 (x44 + 1)) (w64 (x49 - 1)) (List.set (List.set x37 (x1 + (Int.toNat x44)) x50) (x1 + (Int.toNat x49)) x51)
def f101 (F : Nat) (x1 x2 : Nat) (x3 x4 x5 : Int) (x6 : List Int) : Option (Int × Bool × (List Int)) :=
  req ((0 : Int) ≤ x5 ∧ (x5 : Int) < ((x2 : Nat) : Int)) <|
  Option.bind ((x6)[(x1 + (Int.toNat x5))]?) fun x7 =>
  req ((0 : Int) ≤ x3 ∧ (x3 : Int) < ((x2 : Nat) : Int)) <|
  Option.bind ((x6)[(x1 + (Int.toNat x3))]?) fun x8 =>
  req ((x1 + (Int.toNat x3)) < List.length x6) <|
  req ((x1 + (Int.toNat x5)) < List.length (List.set x6 (x1 + (Int.toNat x3)) x7)) <|
  Option.bind (f101_p1 F x1 x2 x3 x4 x6 x7 x5 x8 F (w64 (x3 + 1))) fun x13 =>
  Option.bind (f101_p5 F x1 x2 x3 x13 x6 x7 x5 x8 F (w64 (x4 - 1))) fun x18 =>
  if (decide (x13 > x18)) = true then
    Option.bind (((List.set (List.set x6 (x1 + (Int.toNat x3)) x7) (x1 + (Int.toNat x5)) x8))[(x1 + (Int.toNat x3))]?) fun x19 =>
    req ((0 : Int) ≤ x18 ∧ (x18 : Int) < ((x2 : Nat) : Int)) <|
    Option.bind (((List.set (List.set x6 (x1 + (Int.toNat x3)) x7) (x1 + (Int.toNat x5)) x8))[(x1 + (Int.toNat x18))]?) fun x20 =>
    req ((x1 + (Int.toNat x18)) < List.length (List.set (List.set x6 (x1 + (Int.toNat x3)) x7) (x1 + (Int.toNat x5)) x8)) <|
    req ((x1 + (Int.toNat x3)) < List.length (List.set (List.set (List.set x6 (x1 + (Int.toNat x3)) x7) (x1 + (Int.toNat x5)) x8) (x1 + (Int.toNat x18)) x19)) <|
    some (x18, true, (List.set (List.set (List.set (List.set x6 (x1 + (Int.toNat x3)) x7) (x1 + (Int.toNat x5)) x8) (x1 + (Int.toNat x18)) x19) (x1 + (Int.toNat x3)) x20))
  else
    req ((0 : Int) ≤ x18 ∧ (x18 : Int) < ((x2 : Nat) : Int)) <|
    Option.bind (((List.set (List.set x6 (x1 + (Int.toNat x3)) x7) (x1 + (Int.toNat x5)) x8))[(x1 + (Int.toNat x18))]?) fun x21 =>
    req ((0 : Int) ≤ x13 ∧ (x13 : Int) < ((x2 : Nat) : Int)) <|
    Option.bind (((List.set (List.set x6 (x1 + (Int.toNat x3)) x7) (x1 + (Int.toNat x5)) x8))[(x1 + (Int.toNat x13))]?) fun x22 =>
    req ((x1 + (Int.toNat x13)) < List.length (List.set (List.set x6 (x1 + (Int.toNat x3)) x7) (x1 + (Int.toNat x5)) x8)) <|
    req ((x1 + (Int.toNat x18)) < List.length (List.set (List.set (List.set x6 (x1 + (Int.toNat x3)) x7) (x1 + (Int.toNat x5)) x8) (x1 + (Int.toNat x13)) x21)) <|
    Option.bind (f101_p10 F x1 x2 x3 F (w64 (x13 + 1)) (w64 (x18 - 1)) (List.set (List.set (List.set (List.set x6 (x1 + (Int.toNat x3)) x7) (x1 + (Int.toNat x5)) x8) (x1 + (Int.toNat x13)) x21) (x1 + (Int.toNat x18)) x22)) fun (x52, x53) =>
    Option.bind ((x53)[(x1 + (Int.toNat x3))]?) fun x54 =>
    req ((0 : Int) ≤ x52 ∧ (x52 : Int) < ((x2 : Nat) : Int)) <|
    Option.bind ((x53)[(x1 + (Int.toNat x52))]?) fun x55 =>
    req ((x1 + (Int.toNat x52)) < List.length x53) <|
    req ((x1 + (Int.toNat x3)) < List.length (List.set x53 (x1 + (Int.toNat x52)) x54)) <|
    some (x52, false, (List.set (List.set x53 (x1 + (Int.toNat x52)) x54) (x1 + (Int.toNat x3)) x55))

def f100_p4_1 (F : Nat) (x1 x2 : Nat) (x3 x25 : Int) (x23 : List Int) : Nat → Int → Option Int
  | 0, _ => none
  | k + 1, x26 =>
    if (decide (x26 ≤ x25)) = true then
      req ((0 : Int) ≤ x3 ∧ (x3 : Int) < ((x2 : Nat) : Int)) <|
      Option.bind ((x23)[(x1 + (Int.toNat x3))]?) fun x27 =>
      req ((0 : Int) ≤ x26 ∧ (x26 : Int) < ((x2 : Nat) : Int)) <|
      Option.bind ((x23)[(x1 + (Int.toNat x26))]?) fun x28 =>
      Option.bind (f99 F x27 x28) fun x29 =>
      if x29 = true then
        some x26
      else
        f100_p4_1 F x1 x2 x3 x25 x23 k (w64 (x26 + 1))
    else
      some x26
def f100_p8_1 (F : Nat) (x1 x2 : Nat) (x3 x30 : Int) (x23 : List Int) : Nat → Int → Option Int
  | 0, _ => none
  | k + 1, x31 =>
    if (decide (x30 ≤ x31)) = true then
      req ((0 : Int) ≤ x3 ∧ (x3 : Int) < ((x2 : Nat) : Int)) <|
      Option.bind ((x23)[(x1 + (Int.toNat x3))]?) fun x32 =>
      req ((0 : Int) ≤ x31 ∧ (x31 : Int) < ((x2 : Nat) : Int)) <|
      Option.bind ((x23)[(x1 + (Int.toNat x31))]?) fun x33 =>
      Option.bind (f99 F x32 x33) fun x34 =>
      if x34 = true then
        f100_p8_1 F x1 x2 x3 x30 x23 k (w64 (x31 - 1))
      else
        some x31
    else
      some x31
def f100_p1 (F : Nat) (x1 x2 : Nat) (x3 : Int) : Nat → Int → Int → (List Int) → Option (Int × (List Int))
  | 0, _, _, _ => none
  | k + 1, x24, x25, x23 =>
    Option.bind (f100_p4_1 F x1 x2 x3 x25 x23 F x24) fun x30 =>
    Option.bind (f100_p8_1 F x1 x2 x3 x30 x23 F x25) fun x35 =>
    if (decide (x30 > x35)) = true then
      some (x30, x23)
    else
      req ((0 : Int) ≤ x35 ∧ (x35 : Int) < ((x2 : Nat) : Int)) <|
      Option.bind ((x23)[(x1 + (Int.toNat x35))]?) fun x36 =>
      req ((0 : Int) ≤ x30 ∧ (x30 : Int) < ((x2 : Nat) : Int)) <|
      Option.bind ((x23)[(x1 + (Int.toNat x30))]?) fun x37 =>
      req ((x1 + (Int.toNat x30)) < List.length x23) <|
      req ((x1 + (Int.toNat x35)) < List.length (List.set x23 (x1 + (Int.toNat x30)) x36)) <|
      f100_p1 F x1 x2 x3 k (w64 (x30 + 1)) (w64 (x35 - 1)) (List.set (List.set x23 (x1 + (Int.toNat x30)) x36) (x1 + (Int.toNat x35)) x37)
def f100 (F : Nat) (x1 x2 : Nat) (x3 x4 x5 : Int) (x6 : List Int) : Option (Int × (List Int)) :=
  req ((0 : Int) ≤ x5 ∧ (x5 : Int) < ((x2 : Nat) : Int)) <|
  Option.bind ((x6)[(x1 + (Int.toNat x5))]?) fun x7 =>
  req ((0 : Int) ≤ x3 ∧ (x3 : Int) < ((x2 : Nat) : Int)) <|
  Option.bind ((x6)[(x1 + (Int.toNat x3))]?) fun x8 =>
  req ((x1 + (Int.toNat x3)) < List.length x6) <|
  req ((x1 + (Int.toNat x5)) < List.length (List.set x6 (x1 + (Int.toNat x3)) x7)) <|
  Option.bind (f100_p1 F x1 x2 x3 F (w64 (x3 + 1)) (w64 (x4 - 1)) (List.set (List.set x6 (x1 + (Int.toNat x3)) x7) (x1 + (Int.toNat x5)) x8)) fun (x38, x39) =>
  some (x38, x39)

def f83_p5_1 (F : Nat) (x1 x2 : Nat) (x40 x41 x42 : Int) (x43 x44 : Bool) (x39 : List Int) : Option (Int × (List Int)) :=
  if x43 = true then
    some (x42, x39)
  else
    Option.bind (f95 F x1 x2 x40 x41 x39) fun x47 =>
    some ((w64 (x42 - 1)), x47)
def f83_p6_1 (F : Nat) (x1 x2 : Nat) (x40 x41 x48 : Int) (x43 x44 : Bool) (x50 x51 : Int) (x49 : List Int) : Option (Int × Int × (List Int)) :=
  if (x51 == 2) = true then
    Option.bind (f97 F x1 x2 x40 x41 x49) fun x52 =>
    some ((w64 ((w64 (x41 - 1)) - (w64 (x50 - x40)))), 1, x52)
  else
    some (x50, x51, x49)
inductive f83_p7_1_R where
  | c0 (a0 : List Int)
  | c1 (a0 : List Int)
def f83_p7_1 (F : Nat) (x1 x2 : Nat) (x40 x41 x48 : Int) (x43 x44 : Bool) (x53 x54 : Int) (x55 : List Int) : Option f83_p7_1_R :=
  if (x54 == 1) = true then
    Option.bind (f98 F x1 x2 x40 x41 x55) fun (x56, x57) =>
    if x56 = true then
      some (.c0 x57)
    else
      some (.c1 x57)
  else
    some (.c1 x55)
def f83_p10_1 (F : Nat) (rec : Nat → Nat → Int → Int → Int → (List Int) → Option (List Int)) (x1 x2 : Nat) (x40 x41 x48 : Int) (x64 : Bool) (x63 : Int) (x65 : List Int) : Option (Int × Int × Bool × (List Int)) :=
  if (decide ((w64 (x63 - x40)) < (w64 (x41 - x63)))) = true then
    Option.bind (rec x1 x2 x40 x63 x48 x65) fun x66 =>
    some ((w64 (x63 + 1)), x41, (decide ((w64 (x63 - x40)) ≥ (w64 (Int.tdiv (w64 (x41 - x40)) 8)))), x66)
  else
    Option.bind (rec x1 x2 (w64 (x63 + 1)) x41 x48 x65) fun x67 =>
    some (x40, x63, (decide ((w64 (x41 - x63)) ≥ (w64 (Int.tdiv (w64 (x41 - x40)) 8)))), x67)
def f83_p10_2 (F : Nat) (rec : Nat → Nat → Int → Int → Int → (List Int) → Option (List Int)) (x1 x2 : Nat) (x40 x41 x48 : Int) (x75 : Bool) (x74 : Int) (x76 : List Int) : Option (Int × Int × Bool × (List Int)) :=
  if (decide ((w64 (x74 - x40)) < (w64 (x41 - x74)))) = true then
    Option.bind (rec x1 x2 x40 x74 x48 x76) fun x77 =>
    some ((w64 (x74 + 1)), x41, (decide ((w64 (x74 - x40)) ≥ (w64 (Int.tdiv (w64 (x41 - x40)) 8)))), x77)
  else
    Option.bind (rec x1 x2 (w64 (x74 + 1)) x41 x48 x76) fun x78 =>
    some (x40, x74, (decide ((w64 (x41 - x74)) ≥ (w64 (Int.tdiv (w64 (x41 - x40)) 8)))), x78)
def f83_p10_3 (F : Nat) (rec : Nat → Nat → Int → Int → Int → (List Int) → Option (List Int)) (x1 x2 : Nat) (x40 x41 x48 : Int) (x87 : Bool) (x86 : Int) (x88 : List Int) : Option (Int × Int × Bool × (List Int)) :=
  if (decide ((w64 (x86 - x40)) < (w64 (x41 - x86)))) = true then
    Option.bind (rec x1 x2 x40 x86 x48 x88) fun x89 =>
    some ((w64 (x86 + 1)), x41, (decide ((w64 (x86 - x40)) ≥ (w64 (Int.tdiv (w64 (x41 - x40)) 8)))), x89)
  else
    Option.bind (rec x1 x2 (w64 (x86 + 1)) x41 x48 x88) fun x90 =>
    some (x40, x86, (decide ((w64 (x41 - x86)) ≥ (w64 (Int.tdiv (w64 (x41 - x40)) 8)))), x90)
def f83_p10_4 (F : Nat) (rec : Nat → Nat → Int → Int → Int → (List Int) → Option (List Int)) (x1 x2 : Nat) (x40 x41 x48 : Int) (x98 : Bool) (x97 : Int) (x99 : List Int) : Option (Int × Int × Bool × (List Int)) :=
  if (decide ((w64 (x97 - x40)) < (w64 (x41 - x97)))) = true then
    Option.bind (rec x1 x2 x40 x97 x48 x99) fun x100 =>
    some ((w64 (x97 + 1)), x41, (decide ((w64 (x97 - x40)) ≥ (w64 (Int.tdiv (w64 (x41 - x40)) 8)))), x100)
  else
    Option.bind (rec x1 x2 (w64 (x97 + 1)) x41 x48 x99) fun x101 =>
    some (x40, x97, (decide ((w64 (x41 - x97)) ≥ (w64 (Int.tdiv (w64 (x41 - x40)) 8)))), x101)
def f83_p10_5 (F : Nat) (rec : Nat → Nat → Int → Int → Int → (List Int) → Option (List Int)) (x1 x2 : Nat) (x40 x41 x48 : Int) (x110 : Bool) (x109 : Int) (x111 : List Int) : Option (Int × Int × Bool × (List Int)) :=
  if (decide ((w64 (x109 - x40)) < (w64 (x41 - x109)))) = true then
    Option.bind (rec x1 x2 x40 x109 x48 x111) fun x112 =>
    some ((w64 (x109 + 1)), x41, (decide ((w64 (x109 - x40)) ≥ (w64 (Int.tdiv (w64 (x41 - x40)) 8)))), x112)
  else
    Option.bind (rec x1 x2 (w64 (x109 + 1)) x41 x48 x111) fun x113 =>
    some (x40, x109, (decide ((w64 (x41 - x109)) ≥ (w64 (Int.tdiv (w64 (x41 - x40)) 8)))), x113)
def f83_p10_6 (F : Nat) (rec : Nat → Nat → Int → Int → Int → (List Int) → Option (List Int)) (x1 x2 : Nat) (x40 x41 x48 : Int) (x121 : Bool) (x120 : Int) (x122 : List Int) : Option (Int × Int × Bool × (List Int)) :=
  if (decide ((w64 (x120 - x40)) < (w64 (x41 - x120)))) = true then
    Option.bind (rec x1 x2 x40 x120 x48 x122) fun x123 =>
    some ((w64 (x120 + 1)), x41, (decide ((w64 (x120 - x40)) ≥ (w64 (Int.tdiv (w64 (x41 - x40)) 8)))), x123)
  else
    Option.bind (rec x1 x2 (w64 (x120 + 1)) x41 x48 x122) fun x124 =>
    some (x40, x120, (decide ((w64 (x41 - x120)) ≥ (w64 (Int.tdiv (w64 (x41 - x40)) 8)))), x124)
def f83_p1_7 (F : Nat) (rec : Nat → Nat → Int → Int → Int → (List Int) → Option (List Int)) (x1 x2 : Nat) : Nat → Int → Int → Int → Bool → Bool → (List Int) → Option (List Int)
  | 0, _, _, _, _, _, _ => none
  | k + 1, x40, x41, x42, x43, x44, x39 =>
    if (decide ((w64 (x41 - x40)) ≤ 12)) = true then
      Option.bind (f93 F x1 x2 x40 x41 x39) fun x45 =>
      some x45
    else
    if (x42 == 0) = true then
      Option.bind (f94 F x1 x2 x40 x41 x39) fun x46 =>
      some x46
    else
      Option.bind (f83_p5_1 F x1 x2 x40 x41 x42 x43 x44 x39) fun (x48, x49) =>
      Option.bind (f96 F x1 x2 x40 x41 x49) fun (x50, x51) =>
      Option.bind (f83_p6_1 F x1 x2 x40 x41 x48 x43 x44 x50 x51 x49) fun (x53, x54, x55) =>
      if x43 = true then
        if x44 = true then
          Option.bind (f83_p7_1 F x1 x2 x40 x41 x48 x43 x44 x53 x54 x55) fun
          | .c0 x58 =>
            some x58
          | .c1 x59 =>
            if (decide (x40 > 0)) = true then
              req ((0 : Int) ≤ (w64 (x40 - 1)) ∧ ((w64 (x40 - 1)) : Int) < ((x2 : Nat) : Int)) <|
              Option.bind ((x59)[(x1 + (Int.toNat (w64 (x40 - 1))))]?) fun x60 =>
              req ((0 : Int) ≤ x53 ∧ (x53 : Int) < ((x2 : Nat) : Int)) <|
              Option.bind ((x59)[(x1 + (Int.toNat x53))]?) fun x61 =>
              Option.bind (f99 F x60 x61) fun x62 =>
              if x62 = true then
                Option.bind (f101 F x1 x2 x40 x41 x53 x59) fun (x63, x64, x65) =>
                Option.bind (f83_p10_1 F rec x1 x2 x40 x41 x48 x64 x63 x65) fun (x68, x69, x70, x71) =>
                f83_p1_7 F rec x1 x2 k x68 x69 x48 x70 x64 x71
              else
                Option.bind (f100 F x1 x2 x40 x41 x53 x59) fun (x72, x73) =>
                f83_p1_7 F rec x1 x2 k x72 x41 x48 x43 x44 x73
            else
              Option.bind (f101 F x1 x2 x40 x41 x53 x59) fun (x74, x75, x76) =>
              Option.bind (f83_p10_2 F rec x1 x2 x40 x41 x48 x75 x74 x76) fun (x79, x80, x81, x82) =>
              f83_p1_7 F rec x1 x2 k x79 x80 x48 x81 x75 x82
        else
        if (decide (x40 > 0)) = true then
          req ((0 : Int) ≤ (w64 (x40 - 1)) ∧ ((w64 (x40 - 1)) : Int) < ((x2 : Nat) : Int)) <|
          Option.bind ((x55)[(x1 + (Int.toNat (w64 (x40 - 1))))]?) fun x83 =>
          req ((0 : Int) ≤ x53 ∧ (x53 : Int) < ((x2 : Nat) : Int)) <|
          Option.bind ((x55)[(x1 + (Int.toNat x53))]?) fun x84 =>
          Option.bind (f99 F x83 x84) fun x85 =>
          if x85 = true then
            Option.bind (f101 F x1 x2 x40 x41 x53 x55) fun (x86, x87, x88) =>
            Option.bind (f83_p10_3 F rec x1 x2 x40 x41 x48 x87 x86 x88) fun (x91, x92, x93, x94) =>
            f83_p1_7 F rec x1 x2 k x91 x92 x48 x93 x87 x94
          else
            Option.bind (f100 F x1 x2 x40 x41 x53 x55) fun (x95, x96) =>
            f83_p1_7 F rec x1 x2 k x95 x41 x48 x43 x44 x96
        else
          Option.bind (f101 F x1 x2 x40 x41 x53 x55) fun (x97, x98, x99) =>
          Option.bind (f83_p10_4 F rec x1 x2 x40 x41 x48 x98 x97 x99) fun (x102, x103, x104, x105) =>
          f83_p1_7 F rec x1 x2 k x102 x103 x48 x104 x98 x105
      else
      if (decide (x40 > 0)) = true then
        req ((0 : Int) ≤ (w64 (x40 - 1)) ∧ ((w64 (x40 - 1)) : Int) < ((x2 : Nat) : Int)) <|
        Option.bind ((x55)[(x1 + (Int.toNat (w64 (x40 - 1))))]?) fun x106 =>
        req ((0 : Int) ≤ x53 ∧ (x53 : Int) < ((x2 : Nat) : Int)) <|
        Option.bind ((x55)[(x1 + (Int.toNat x53))]?) fun x107 =>
        Option.bind (f99 F x106 x107) fun x108 =>
        if x108 = true then
          Option.bind (f101 F x1 x2 x40 x41 x53 x55) fun (x109, x110, x111) =>
          Option.bind (f83_p10_5 F rec x1 x2 x40 x41 x48 x110 x109 x111) fun (x114, x115, x116, x117) =>
          f83_p1_7 F rec x1 x2 k x114 x115 x48 x116 x110 x117
        else
          Option.bind (f100 F x1 x2 x40 x41 x53 x55) fun (x118, x119) =>
          f83_p1_7 F rec x1 x2 k x118 x41 x48 x43 x44 x119
      else
        Option.bind (f101 F x1 x2 x40 x41 x53 x55) fun (x120, x121, x122) =>
        Option.bind (f83_p10_6 F rec x1 x2 x40 x41 x48 x121 x120 x122) fun (x125, x126, x127, x128) =>
        f83_p1_7 F rec x1 x2 k x125 x126 x48 x127 x121 x128
def f83_b (F : Nat) (rec : Nat → Nat → Int → Int → Int → (List Int) → Option (List Int)) (x1 x2 : Nat) (x3 x4 x5 : Int) (x6 : List Int) : Option (List Int) :=
  Option.bind (f83_p1_7 F rec x1 x2 F x3 x4 x5 true true x6) fun x129 =>
  some x129
def f83 (F : Nat) : Nat → Nat → Nat → Int → Int → Int → (List Int) → Option (List Int)
  | 0 => fun _ _ _ _ _ _ => none
  | k + 1 => f83_b F (f83 F k)

def f49 (F : Nat) (x1 : List Int) : Option (List Int) :=
  Option.bind (f84 F (IntKind.wrap .u64 ((((List.length x1) : Nat) : Int)))) fun x2 =>
  Option.bind (f83 F F 0 (List.length x1) 0 (((List.length x1) : Nat) : Int) x2 x1) fun x3 =>
  some x3

def f70_p7_1 (F : Nat) (x4 : List Int) (x14 x13 : Int) : Nat → Int → (List Int) → Option (List Int)
  | 0, _, _ => none
  | k + 1, x16, x15 =>
    if (decide (x16 < x14)) = true then
      req (List.length x15 + List.length ([x16] : List Int) ≤ 1099511627776) <|
      f70_p7_1 F x4 x14 x13 k (w64 (x16 + ((List.length x4 : Nat) : Int))) (x15 ++ ([x16] : List Int))
    else
      some x15
def f70_p3 (F : Nat) (x4 : List Int) : Nat → Int → (List Int) → Option (List Int)
  | 0, _, _ => none
  | k + 1, x13, x12 =>
    if (decide (x13 < ((List.length x4 : Nat) : Int))) = true then
      Option.bind (at? x4 x13) fun x14 =>
      Option.bind (f70_p7_1 F x4 x14 x13 F x13 x12) fun x17 =>
      f70_p3 F x4 k (w64 (x13 + 1)) x17
    else
      some x12
def f70 (F : Nat) (x1 : List Int) : Option ((List Int) × Int) :=
  Option.bind (f26 F x1) fun x2 =>
  if (x2 != 0) = true then
    some (([] : List Int), x2)
  else
    Option.bind (at? x1 0) fun x3 =>
    Option.bind (f68 F x1 x3) fun x4 =>
    Option.bind (f91 F x4 (-1)) fun x5 =>
    if x5 = true then
      some (([] : List Int), 15)
    else
      Option.bind (f70_p3 F x4 F 0 ([] : List Int)) fun x18 =>
      Option.bind (f49 F x18) fun x19 =>
      req ((0 + (List.length x18)) ≤ List.length x19) <|
      some ((List.drop 0 (List.take (0 + (List.length x18)) x19)), 0)

def f30 (F : Nat) (x1 : List Int) : Option (Int × Int) :=
  Option.bind (f70 F x1) fun (x2, x3) =>
  if (x3 != 0) = true then
    some (0, x3)
  else
  if (((List.length x2 : Nat) : Int) == 0) = true then
    some (0, 12)
  else
    Option.bind (at? x2 (w64 (((List.length x2 : Nat) : Int) - 1))) fun x4 =>
    some (x4, 0)

def f32 (F : Nat) (x1 : List Int) : Option (Bool × Int) :=
  Option.bind (f70 F x1) fun (x2, x3) =>
  if (x3 != 0) = true then
    some (false, x3)
  else
  if (((List.length x2 : Nat) : Int) == 0) = true then
    some (true, 0)
  else
    Option.bind (at? x2 (w64 (((List.length x2 : Nat) : Int) - 1))) fun x4 =>
    some (((w64 (2 * ((List.length x2 : Nat) : Int))) == (w64 (x4 + 1))), 0)

def f28 (F : Nat) (x1 : List Int) : Option ((List Int) × Int) :=
  Option.bind (f70 F x1) fun (x2, x3) =>
  some (x2, x3)

def f60 (F : Nat) (x1 : List Int) (x2 : Int) : Option ((List Int) × Int) :=
  Option.bind (f26 F x1) fun x3 =>
  if (x3 != 0) = true then
    some (([] : List Int), x3)
  else
    Option.bind (f67 F x2 0 1000) fun x4 =>
    if x4 = true then
      Option.bind (at? x1 0) fun x5 =>
      Option.bind (f68 F x1 x5) fun x6 =>
      some (x6, 0)
    else
      some (([] : List Int), 1)

def f61 (F : Nat) (x1 : List Int) (x2 : Int) : Option Bool :=
  req ((((List.length x1 : Nat) : Int) : Int) ≠ 0) <|
  Option.bind (at? x1 (Int.tmod x2 ((List.length x1 : Nat) : Int))) fun x3 =>
  if (decide (x3 ≥ 0)) = true then
    some (decide (x3 ≤ x2))
  else
    some false

def f21 (F : Nat) (x1 : List Int) (x2 : Int) : Option (Int × Int × Int) :=
  Option.bind (f60 F x1 x2) fun (x3, x4) =>
  if (x4 != 0) = true then
    some (0, 0, x4)
  else
    Option.bind (f61 F x3 x2) fun x5 =>
    if x5 = true then
      some (0, 0, 13)
    else
      Option.bind (at? x1 0) fun x6 =>
      req ((x6 : Int) ≠ 0) <|
      Option.bind (at? x3 (Int.tmod x2 x6)) fun x7 =>
      some ((Int.tmod x2 x6), x7, 0)

def f89_1 (F : Nat) (x1 : Int) (x2 : List Int) (x3 x4 x5 : Int) : Option Int :=
  Option.bind (at? x2 (w64 (x4 + (w64 (x1 * x3))))) fun x6 =>
  some (w64 ((w64 (x6 + x5)) - x1))

def f65_p1 (F : Nat) (x3 : Int) (x1 x2 : List Int) : Nat → Int → (List Int) → Option (List Int)
  | 0, _, _ => none
  | k + 1, x6, x5 =>
    if (decide (x6 < (((Int.toNat (w64 (x3 + 1))) : Nat) : Int))) = true then
      req ((0 : Int) ≤ x6 ∧ (x6 : Int) < (((Int.toNat (w64 (x3 + 1))) : Nat) : Int)) <|
      req ((0 + (Int.toNat x6)) < List.length x5) <|
      f65_p1 F x3 x1 x2 k (w64 (x6 + 1)) (List.set x5 (0 + (Int.toNat x6)) 1001)
    else
      some x5
def f65_p17_17 (F : Nat) (x3 : Int) (x1 : List Int) (x134 x137 : Int) (x136 x167 : Int) (x2 x135 : List Int) (x133 : List (List Int)) (x179 x180 : List Int) (x182 : Int) : Nat → (List Int) → Option (List Int)
  | 0, _ => none
  | k + 1, x183 =>
    if (decide ((((List.length x183) : Nat) : Int) > 0)) = true then
      req ((0 : Int) ≤ (w64 ((((List.length x183) : Nat) : Int) - 1)) ∧ ((w64 ((((List.length x183) : Nat) : Int) - 1)) : Int) < (((List.length x183) : Nat) : Int)) <|
      Option.bind ((x183)[(0 + (Int.toNat (w64 ((((List.length x183) : Nat) : Int) - 1))))]?) fun x184 =>
      Option.bind (f89_1 F x184 x135 x136 x167 x182) fun x185 =>
      Option.bind (f89_1 F x182 x135 x136 x167 x182) fun x186 =>
      if (decide (x185 ≥ x186)) = true then
        req ((0 : Int) ≤ 0 ∧ (0 : Int) ≤ (w64 ((((List.length x183) : Nat) : Int) - 1)) ∧ ((w64 ((((List.length x183) : Nat) : Int) - 1)) : Int) ≤ (((List.length x183) : Nat) : Int) ∧ 0 < (List.length x183)) <|
        req ((0 : Int) < (w64 ((((List.length x183) : Nat) : Int) - 1)) ∨ (0 : Int) = 0) <|
        f65_p17_17 F x3 x1 x134 x137 x136 x167 x2 x135 x133 x179 x180 x182 k (List.drop 0 (List.take (Int.toNat (w64 ((((List.length x183) : Nat) : Int) - 1))) x183))
      else
        some x183
    else
      some x183
def f65_p20_17 (F : Nat) (x3 : Int) (x1 : List Int) (x134 x137 : Int) (x187 : List Int) (x182 x136 : Int) (x167 x188 : Int) (x2 x135 : List Int) (x133 : List (List Int)) (x179 x180 : List Int) : Option (List Int) :=
  if (decide (x188 < (w64 (x182 - x137)))) = true then
    req ((0 : Int) ≤ 1 ∧ (1 : Int) ≤ (((List.length (x187 ++ ([x182] : List Int))) : Nat) : Int) ∧ ((((List.length (x187 ++ ([x182] : List Int))) : Nat) : Int) : Int) ≤ (((List.length (x187 ++ ([x182] : List Int))) : Nat) : Int) ∧ 0 < (List.length (x187 ++ ([x182] : List Int)))) <|
    req ((1 : Int) < (((List.length (x187 ++ ([x182] : List Int))) : Nat) : Int) ∨ (1 : Int) = 0) <|
    some (List.drop 1 (List.take (List.length (x187 ++ ([x182] : List Int))) (x187 ++ ([x182] : List Int))))
  else
    some (x187 ++ ([x182] : List Int))
def f65_p13_5 (F : Nat) (x3 : Int) (x1 : List Int) (x134 x137 : Int) (x136 x167 : Int) (x2 x135 : List Int) (x133 : List (List Int)) : Nat → (List Int) → (List Int) → Int → (List Int) → Option ((List Int) × (List Int))
  | 0, _, _, _, _ => none
  | k + 1, x179, x180, x182, x181 =>
    if (decide ((w64 (x167 + (w64 (x182 * x136)))) ≤ x3)) = true then
      Option.bind (f65_p17_17 F x3 x1 x134 x137 x136 x167 x2 x135 x133 x179 x180 x182 F x181) fun x187 =>
      req (List.length x187 + List.length ([x182] : List Int) ≤ 1099511627776) <|
      req ((0 : Int) ≤ 0 ∧ (0 : Int) < (((List.length (x187 ++ ([x182] : List Int))) : Nat) : Int)) <|
      Option.bind (((x187 ++ ([x182] : List Int)))[0]?) fun x188 =>
      Option.bind (f65_p20_17 F x3 x1 x134 x137 x187 x182 x136 x167 x188 x2 x135 x133 x179 x180) fun x189 =>
      req ((0 : Int) ≤ 0 ∧ (0 : Int) < (((List.length x189) : Nat) : Int)) <|
      Option.bind ((x189)[0]?) fun x190 =>
      Option.bind (f89_1 F x190 x135 x136 x167 x182) fun x191 =>
      req ((0 : Int) ≤ (w64 (x167 + (w64 (x182 * x136)))) ∧ ((w64 (x167 + (w64 (x182 * x136)))) : Int) < (((Int.toNat (w64 (x3 + 1))) : Nat) : Int)) <|
      req ((0 + (Int.toNat (w64 (x167 + (w64 (x182 * x136)))))) < List.length x179) <|
      req ((0 + (Int.toNat (w64 (x167 + (w64 (x182 * x136)))))) < List.length x180) <|
      f65_p13_5 F x3 x1 x134 x137 x136 x167 x2 x135 x133 k (List.set x179 (0 + (Int.toNat (w64 (x167 + (w64 (x182 * x136)))))) (if x191 < 1001 then x191 else 1001)) (List.set x180 (0 + (Int.toNat (w64 (x167 + (w64 (x182 * x136)))))) (w64 (x182 - x190))) (w64 (x182 + 1)) x189
    else
      some (x179, x180)
def f65_p9_2 (F : Nat) (x3 : Int) (x1 : List Int) (x134 x137 x136 : Int) (x2 x135 : List Int) (x133 : List (List Int)) : Nat → Int → (List Int) → (List Int) → Option ((List Int) × (List Int))
  | 0, _, _, _ => none
  | k + 1, x167, x165, x166 =>
    if (decide (x167 < (if (w64 (x3 + 1)) < x136 then (w64 (x3 + 1)) else x136))) = true then
      Option.bind (f65_p13_5 F x3 x1 x134 x137 x136 x167 x2 x135 x133 F x165 x166 0 ([] : List Int)) fun (x192, x193) =>
      f65_p9_2 F x3 x1 x134 x137 x136 x2 x135 x133 k (w64 (x167 + 1)) x192 x193
    else
      some (x165, x166)
def f65_p5 (F : Nat) (x3 : Int) (x1 x2 : List Int) : Nat → Int → (List Int) → (List (List Int)) → Option ((List Int) × (List (List Int)))
  | 0, _, _, _ => none
  | k + 1, x134, x135, x133 =>
    if (decide (x134 ≥ 0)) = true then
      Option.bind (at? x1 x134) fun x136 =>
      Option.bind (at? x2 x134) fun x137 =>
      req ((0 : Int) ≤ (w64 (x3 + 1)) ∧ ((w64 (x3 + 1)) : Int) ≤ (w64 (x3 + 1)) ∧ ((w64 (x3 + 1)) : Int) ≤ 1099511627776) <|
      Option.bind (f65_p9_2 F x3 x1 x134 x137 x136 x2 x135 x133 F 0 (List.replicate (Int.toNat (w64 (x3 + 1))) (0 : Int)) (List.replicate (Int.toNat (w64 (x3 + 1))) (0 : Int))) fun (x194, x195) =>
      req ((0 + (Int.toNat (w64 (x3 + 1)))) ≤ List.length x194) <|
      req ((0 + (Int.toNat (w64 (x3 + 1)))) ≤ List.length x195) <|
      req ((0 : Int) ≤ x134 ∧ (x134 : Int) < (((Int.toNat ((List.length x1 : Nat) : Int)) : Nat) : Int)) <|
      req ((0 + (Int.toNat x134)) < List.length x133) <|
      f65_p5 F x3 x1 x2 k (w64 (x134 - 1)) (List.drop 0 (List.take (0 + (Int.toNat (w64 (x3 + 1)))) x194)) (List.set x133 (0 + (Int.toNat x134)) (List.drop 0 (List.take (0 + (Int.toNat (w64 (x3 + 1)))) x195)))
    else
      some (x135, x133)
def f65_p23 (F : Nat) (x1 x2 : List Int) (x197 : List (List Int)) : Nat → Int → Int → (List Int) → Option (List Int)
  | 0, _, _, _ => none
  | k + 1, x205, x206, x204 =>
    if (decide (x206 < (((Int.toNat ((List.length x1 : Nat) : Int)) : Nat) : Int))) = true then
      req ((0 : Int) ≤ x206 ∧ (x206 : Int) < (((Int.toNat ((List.length x1 : Nat) : Int)) : Nat) : Int)) <|
      Option.bind ((x197)[(0 + (Int.toNat x206))]?) fun x207 =>
      Option.bind (at? x207 x205) fun x208 =>
      req (List.length x204 + List.length ([x208] : List Int) ≤ 1099511627776) <|
      Option.bind (at? x1 x206) fun x209 =>
      f65_p23 F x1 x2 x197 k (w64 (x205 - (w64 (x208 * x209)))) (w64 (x206 + 1)) (x204 ++ ([x208] : List Int))
    else
      some x204
def f65 (F : Nat) (x1 x2 : List Int) (x3 : Int) : Option ((List Int) × Int) :=
  req ((0 : Int) ≤ (w64 (x3 + 1)) ∧ ((w64 (x3 + 1)) : Int) ≤ (w64 (x3 + 1)) ∧ ((w64 (x3 + 1)) : Int) ≤ 1099511627776) <|
  Option.bind (f65_p1 F x3 x1 x2 F 0 (List.replicate (Int.toNat (w64 (x3 + 1))) (0 : Int))) fun x7 =>
  req ((0 : Int) ≤ 0 ∧ (0 : Int) < (((Int.toNat (w64 (x3 + 1))) : Nat) : Int)) <|
  req (0 < List.length x7) <|
  req ((0 : Int) ≤ ((List.length x1 : Nat) : Int) ∧ (((List.length x1 : Nat) : Int) : Int) ≤ ((List.length x1 : Nat) : Int) ∧ (((List.length x1 : Nat) : Int) : Int) ≤ 1099511627776) <|
  req ((0 + (Int.toNat (w64 (x3 + 1)))) ≤ List.length (List.set x7 0 0)) <|
  Option.bind (f65_p5 F x3 x1 x2 F (w64 (((List.length x1 : Nat) : Int) - 1)) (List.drop 0 (List.take (0 + (Int.toNat (w64 (x3 + 1)))) (List.set x7 0 0))) (List.replicate (Int.toNat ((List.length x1 : Nat) : Int)) ([] : (List Int)))) fun (x196, x197) =>
  Option.bind (at? x196 x3) fun x198 =>
  if (x198 == 1001) = true then
    some (([] : List Int), 12)
  else
    Option.bind (f65_p23 F x1 x2 x197 F x3 0 ([] : List Int)) fun x210 =>
    some ((List.drop 0 (List.take (0 + (List.length x210)) x210)), 0)

def f19_p2 (F : Nat) (x2 : Int) (x1 : List Int) : Nat → Int → (List Int) → (List Int) → Option ((List Int) × (List Int))
  | 0, _, _, _ => none
  | k + 1, x11, x12, x10 =>
    if (decide (x11 < ((List.length x1 : Nat) : Int))) = true then
      Option.bind (at? x1 x11) fun x13 =>
      req ((x13 : Int) ≠ 0) <|
      req (List.length x10 + List.length ([(w64 (Int.tdiv x2 x13))] : List Int) ≤ 1099511627776) <|
      f19_p2 F x2 x1 k (w64 (x11 + 1)) x12 (x10 ++ ([(w64 (Int.tdiv x2 x13))] : List Int))
    else
      some (x12, x10)
def f19 (F : Nat) (x1 : List Int) (x2 : Int) : Option ((List Int) × Int) :=
  Option.bind (f60 F x1 x2) fun (x3, x4) =>
  if (x4 != 0) = true then
    some (([] : List Int), x4)
  else
    Option.bind (f19_p2 F x2 x1 F 0 x1 ([] : List Int)) fun (x14, x15) =>
    Option.bind (f65 F x14 (List.drop 0 (List.take (0 + (List.length x15)) x15)) x2) fun (x16, x17) =>
    some (x16, x17)

def f92_p0 (F : Nat) (x1 : List Int) : Option Unit :=
  if (decide (((List.length x1 : Nat) : Int) < 1)) = true then
    none
  else
    some ()
def f92_p2 (F : Nat) (x1 : List Int) : Nat → Int → Int → Option Int
  | 0, _, _ => none
  | k + 1, x3, x4 =>
    if (decide (x4 < ((List.length x1 : Nat) : Int))) = true then
      Option.bind (at? x1 x4) fun x5 =>
      f92_p2 F x1 k (if x5 < x3 then x5 else x3) (w64 (x4 + 1))
    else
      some x3
def f92 (F : Nat) (x1 : List Int) : Option Int :=
  Option.bind (f92_p0 F x1) fun _ =>
  Option.bind (at? x1 0) fun x2 =>
  Option.bind (f92_p2 F x1 F x2 1) fun x6 =>
  some x6

def f85_p0 (F : Nat) (x1 : List Int) : Option Unit :=
  if (decide (((List.length x1 : Nat) : Int) < 1)) = true then
    none
  else
    some ()
def f85_p2 (F : Nat) (x1 : List Int) : Nat → Int → Int → Option Int
  | 0, _, _ => none
  | k + 1, x3, x4 =>
    if (decide (x4 < ((List.length x1 : Nat) : Int))) = true then
      Option.bind (at? x1 x4) fun x5 =>
      f85_p2 F x1 k (if x5 > x3 then x5 else x3) (w64 (x4 + 1))
    else
      some x3
def f85 (F : Nat) (x1 : List Int) : Option Int :=
  Option.bind (f85_p0 F x1) fun _ =>
  Option.bind (at? x1 0) fun x2 =>
  Option.bind (f85_p2 F x1 F x2 1) fun x6 =>
  some x6

def f77 (F : Nat) (x1 x2 : List Int) : Option ((List Int) × (List Int) × Int) :=
  Option.bind (f26 F x1) fun x3 =>
  if (x3 != 0) = true then
    some (([] : List Int), ([] : List Int), x3)
  else
  if (((List.length x2 : Nat) : Int) != ((List.length x1 : Nat) : Int)) = true then
    some (([] : List Int), ([] : List Int), 5)
  else
    Option.bind (f92 F x2) fun x4 =>
    if (decide (x4 < 0)) = true then
      some (([] : List Int), ([] : List Int), 1)
    else
      Option.bind (f85 F x2) fun x5 =>
      if (decide (x5 > 40)) = true then
        some (([] : List Int), ([] : List Int), 1)
      else
        some (x1, x2, 0)

def f73_p0 (F : Nat) (x6 : Int) (x7 : Bool) (x4 x5 : List Int) : Option Int :=
  if x7 = true then
    some x6
  else
    some 1
def f73 (F : Nat) (x1 x2 : List Int) (x3 : Int) : Option ((List Int) × (List Int) × Int) :=
  Option.bind (f77 F x1 x2) fun (x4, x5, x6) =>
  if (x6 == 0) = true then
    Option.bind (f67 F x3 0 1000) fun x7 =>
    Option.bind (f73_p0 F x6 x7 x4 x5) fun x8 =>
    some (x4, x5, x8)
  else
    some (x4, x5, x6)

def f51 (F : Nat) (x1 x2 : List Int) (x3 : Int) : Option ((List Int) × Int) :=
  Option.bind (f73 F x1 x2 x3) fun (x4, x5, x6) =>
  if (x6 != 0) = true then
    some (([] : List Int), x6)
  else
    Option.bind (f65 F x4 x5 x3) fun (x7, x8) =>
    some (x7, x8)

def f47 (F : Nat) (x1 : Option (List Int)) : Option (List Int) :=
  if (Option.isNone x1) = true then
    some ([] : List Int)
  else
    req (List.length ([] : List Int) + List.length ((x1).getD []) ≤ 1099511627776) <|
    some (([] : List Int) ++ ((x1).getD []))

def f47m (F : Nat) (x1 : List Int) : Option (List Int) :=
  nilm (fun o => f47 F o) x1

def f74_p8_5 (F : Nat) (x33 : List Int) (x34 x35 : Int) (x36 : List Int) (x53 x56 : Int) (x1 x52 : List Int) (x54 x55 : Int) (x2 : List Int) : Option (List Int) :=
  if (decide ((w64 (x53 - (w64 ((w64 (x56 + 1)) * x35)))) ≥ 0)) = true then
    req ((0 : Int) ≤ x53 ∧ (x53 : Int) < (((List.length x36) : Nat) : Int)) <|
    Option.bind (((List.set x52 (0 + (Int.toNat x53)) (w64 (x54 + x55))))[(0 + (Int.toNat x53))]?) fun x57 =>
    Option.bind (at? x33 (w64 (x53 - (w64 ((w64 (x56 + 1)) * x35))))) fun x58 =>
    req ((0 + (Int.toNat x53)) < List.length (List.set x52 (0 + (Int.toNat x53)) (w64 (x54 + x55)))) <|
    some (List.set (List.set x52 (0 + (Int.toNat x53)) (w64 (x54 + x55))) (0 + (Int.toNat x53)) (w64 (x57 - x58)))
  else
    some (List.set x52 (0 + (Int.toNat x53)) (w64 (x54 + x55)))
def f74_p5_1 (F : Nat) (x33 : List Int) (x34 x35 : Int) (x36 x1 x2 : List Int) : Nat → Int → (List Int) → Option (List Int)
  | 0, _, _ => none
  | k + 1, x53, x52 =>
    if (decide (x53 ≤ 1000)) = true then
      req ((0 : Int) ≤ x53 ∧ (x53 : Int) < (((List.length x36) : Nat) : Int)) <|
      Option.bind ((x52)[(0 + (Int.toNat x53))]?) fun x54 =>
      req ((0 : Int) ≤ (w64 (x53 - x35)) ∧ ((w64 (x53 - x35)) : Int) < (((List.length x36) : Nat) : Int)) <|
      Option.bind ((x52)[(0 + (Int.toNat (w64 (x53 - x35))))]?) fun x55 =>
      req ((0 + (Int.toNat x53)) < List.length x52) <|
      Option.bind (at? x2 x34) fun x56 =>
      Option.bind (f74_p8_5 F x33 x34 x35 x36 x53 x56 x1 x52 x54 x55 x2) fun x59 =>
      f74_p5_1 F x33 x34 x35 x36 x1 x2 k (w64 (x53 + 1)) x59
    else
      some x52
def f74_p1 (F : Nat) (x1 x2 : List Int) : Nat → (List Int) → Int → Option (List Int)
  | 0, _, _ => none
  | k + 1, x33, x34 =>
    if (decide (x34 < ((List.length x1 : Nat) : Int))) = true then
      Option.bind (at? x1 x34) fun x35 =>
      Option.bind (f47m F x33) fun x36 =>
      Option.bind (f74_p5_1 F x33 x34 x35 x36 x1 x2 F x35 x36) fun x60 =>
      req ((0 + (List.length x36)) ≤ List.length x60) <|
      f74_p1 F x1 x2 k (List.drop 0 (List.take (0 + (List.length x36)) x60)) (w64 (x34 + 1))
    else
      some x33
def f74 (F : Nat) (x1 x2 : List Int) : Option (List Int) :=
  req ((0 : Int) ≤ 0 ∧ (0 : Int) < ((1001 : Nat) : Int)) <|
  req (0 < List.length (List.replicate 1001 (0 : Int))) <|
  req (1001 ≤ List.length (List.set (List.replicate 1001 (0 : Int)) 0 1)) <|
  Option.bind (f74_p1 F x1 x2 F (List.drop 0 (List.take 1001 (List.set (List.replicate 1001 (0 : Int)) 0 1))) 0) fun x61 =>
  some x61

def f80_p0 (F : Nat) (x1 x2 : Int) (x3 x4 : Int) : Option (Int × Int) :=
  if (decide (x1 ≥ x2)) = true then
    some (0, x1)
  else
    some (x3, x4)
def f80 (F : Nat) (x1 x2 : Int) (x3 x4 : Int) : Option (Bool × Int × Int) :=
  Option.bind (f80_p0 F x1 x2 x3 x4) fun (x5, x6) =>
  some ((x5 != 0), x5, x6)

inductive f78_p1_R where
  | c0 (a0 : Int) (a1 : Int)
  | c1 (a0 : Int) (a1 : Int)
def f78_p1 (F : Nat) (x6 : List Int) (x3 : Int) : Nat → Int → Int → Int → Option f78_p1_R
  | 0, _, _, _ => none
  | k + 1, x12, x13, x14 =>
    if (decide (x12 < ((List.length x6 : Nat) : Int))) = true then
      Option.bind (at? x6 x12) fun x15 =>
      if (decide (x15 > 0)) = true then
        Option.bind (f80 F x12 x3 x13 x14) fun (x16, x17, x18) =>
        if x16 = true then
          f78_p1 F x6 x3 k (w64 (x12 + 1)) x17 x18
        else
          some (.c0 x17 x18)
      else
        f78_p1 F x6 x3 k (w64 (x12 + 1)) x13 x14
    else
      some (.c1 x13 x14)
def f78 (F : Nat) (x1 x2 : List Int) (x3 x4 x5 : Int) : Option (Int × Int) :=
  Option.bind (f74 F x1 x2) fun x6 =>
  Option.bind (f78_p1 F x6 x3 F 0 x4 x5) fun
  | .c0 x19 x20 =>
    some (x19, x20)
  | .c1 x21 x22 =>
    some (x21, x22)

def f40 (F : Nat) (x1 x2 : List Int) (x3 : Int) : Option (Int × Int) :=
  Option.bind (f73 F x1 x2 x3) fun (x4, x5, x6) =>
  if (x6 != 0) = true then
    some (0, x6)
  else
    Option.bind (f78 F x4 x5 x3 12 0) fun (x7, x8) =>
    some (x8, x7)

inductive f23_p2_R where
  | c0
  | c1
def f23_p2 (F : Nat) (x1 x2 : List Int) : Nat → Int → Option f23_p2_R
  | 0, _ => none
  | k + 1, x3 =>
    if (decide (x3 < ((List.length x1 : Nat) : Int))) = true then
      Option.bind (at? x1 x3) fun x4 =>
      Option.bind (at? x2 x3) fun x5 =>
      if (x4 != x5) = true then
        some .c0
      else
        f23_p2 F x1 x2 k (w64 (x3 + 1))
    else
      some .c1
def f23 (F : Nat) (x1 x2 : List Int) : Option Bool :=
  if (((List.length x1 : Nat) : Int) != ((List.length x2 : Nat) : Int)) = true then
    some false
  else
    Option.bind (f23_p2 F x1 x2 F 0) fun
    | .c0 =>
      some false
    | .c1 =>
      some true

def f24 (F : Nat) (x1 : List Int) (x2 : Int) : Option ((List Int) × Int) :=
  Option.bind (f26 F x1) fun x3 =>
  if (x3 != 0) = true then
    some (([] : List Int), x3)
  else
    Option.bind (f67 F x2 0 (w64 (((List.length x1 : Nat) : Int) - 1))) fun x4 =>
    if x4 = true then
      Option.bind (at? x1 x2) fun x5 =>
      Option.bind (f68 F x1 x5) fun x6 =>
      some (x6, 0)
    else
      some (([] : List Int), 2)

def f17 (F : Nat) (x1 : List Int) (x2 : Int) : Option (Bool × Int) :=
  Option.bind (f60 F x1 x2) fun (x3, x4) =>
  if (x4 == 0) = true then
    Option.bind (f61 F x3 x2) fun x5 =>
    some (x5, x4)
  else
    some (false, x4)

def f34_p5 (F : Nat) (x1 x5 : List Int) (x6 : Int) (x10 : Bool) : Option (List Int) :=
  if x10 = true then
    some x5
  else
    req (List.length x5 + List.length ([x6] : List Int) ≤ 1099511627776) <|
    some (x5 ++ ([x6] : List Int))
def f34_p2 (F : Nat) (x1 : List Int) : Nat → Int → (List Int) → Option (List Int)
  | 0, _, _ => none
  | k + 1, x6, x5 =>
    if (decide (x6 < ((List.length x1 : Nat) : Int))) = true then
      Option.bind (at? x1 x6) fun x7 =>
      if (x6 == 0) = true then
        req (List.length x5 + List.length ([x6] : List Int) ≤ 1099511627776) <|
        f34_p2 F x1 k (w64 (x6 + 1)) (x5 ++ ([x6] : List Int))
      else
        req ((0 : Int) ≤ 0 ∧ (0 : Int) ≤ x6 ∧ (x6 : Int) ≤ ((List.length x1 : Nat) : Int)) <|
        Option.bind (at? x1 0) fun x8 =>
        Option.bind (f68 F (List.drop 0 (List.take (Int.toNat x6) x1)) x8) fun x9 =>
        Option.bind (f61 F x9 x7) fun x10 =>
        Option.bind (f34_p5 F x1 x5 x6 x10) fun x11 =>
        f34_p2 F x1 k (w64 (x6 + 1)) x11
    else
      some x5
def f34 (F : Nat) (x1 : List Int) : Option ((List Int) × Int) :=
  Option.bind (f26 F x1) fun x2 =>
  if (x2 != 0) = true then
    some (([] : List Int), x2)
  else
    Option.bind (f34_p2 F x1 F 0 ([] : List Int)) fun x12 =>
    some ((List.drop 0 (List.take (0 + (List.length x12)) x12)), 0)

def f36 (F : Nat) (x1 x2 : List Int) (x3 : Int) : Option (Int × Int) :=
  Option.bind (f73 F x1 x2 x3) fun (x4, x5, x6) =>
  if (x6 != 0) = true then
    some (0, x6)
  else
    Option.bind (f74 F x4 x5) fun x7 =>
    Option.bind (at? x7 x3) fun x8 =>
    some (x8, 0)

def f47_1 (F : Nat) (x1 : Option (List Int)) : Option (List Int) :=
  if (Option.isNone x1) = true then
    some ([] : List Int)
  else
    req (List.length ([] : List Int) + List.length ((x1).getD []) ≤ 1099511627776) <|
    some (([] : List Int) ++ ((x1).getD []))

def f47_1m (F : Nat) (x1 : List Int) : Option (List Int) :=
  nilm (fun o => f47_1 F o) x1

def f42_p10 (F : Nat) (x3 x4 : Int) (x12 x14 : Int) (x10 : List Int) (x15 x11 : Int) (x5 x6 : List Int) : Option (Int × Int) :=
  if (x14 != 0) = true then
    some (x15, 0)
  else
    some (x12, x14)
def f42_p4 (F : Nat) (x3 x4 : Int) (x10 : List Int) (x11 : Int) (x5 x6 : List Int) : Nat → Int → Int → Int → Int → Option (Int × Int × Int)
  | 0, _, _, _, _ => none
  | k + 1, x12, x13, x14, x15 =>
    if (decide (x15 < (w64 (x11 + 1)))) = true then
      Option.bind (at? x5 x4) fun x16 =>
      if (decide ((w64 (x3 - (w64 (x15 * x16)))) < 0)) = true then
        some (x12, x13, x14)
      else
        Option.bind (at? x10 (w64 (x3 - (w64 (x15 * x16))))) fun x17 =>
        if (x17 == 0) = true then
          f42_p4 F x3 x4 x10 x11 x5 x6 k x12 x13 x14 (w64 (x15 + 1))
        else
          Option.bind (f42_p10 F x3 x4 x12 x14 x10 x15 x11 x5 x6) fun (x18, x19) =>
          f42_p4 F x3 x4 x10 x11 x5 x6 k x18 x15 x19 (w64 (x15 + 1))
    else
      some (x12, x13, x14)
def f42 (F : Nat) (x1 x2 : List Int) (x3 x4 : Int) : Option (Int × Int × Int) :=
  Option.bind (f73 F x1 x2 x3) fun (x5, x6, x7) =>
  if (x7 != 0) = true then
    some (0, 0, x7)
  else
    Option.bind (f67 F x4 0 (w64 (((List.length x1 : Nat) : Int) - 1))) fun x8 =>
    if x8 = true then
      Option.bind (f47_1m F x6) fun x9 =>
      req ((0 : Int) ≤ x4 ∧ (x4 : Int) < (((List.length x9) : Nat) : Int)) <|
      req ((0 + (Int.toNat x4)) < List.length x9) <|
      req ((0 + (List.length x9)) ≤ List.length (List.set x9 (0 + (Int.toNat x4)) 0)) <|
      Option.bind (f74 F x5 (List.drop 0 (List.take (0 + (List.length x9)) (List.set x9 (0 + (Int.toNat x4)) 0)))) fun x10 =>
      Option.bind (at? x6 x4) fun x11 =>
      Option.bind (f42_p4 F x3 x4 x10 x11 x5 x6 F 0 0 12 0) fun (x20, x21, x22) =>
      some (x20, x21, x22)
    else
      some (0, 0, 2)

def f79 (F : Nat) (x1 : Int) (x2 : List Int) : Option (Bool × (List Int)) :=
  req (List.length x2 + List.length ([x1] : List Int) ≤ 1099511627776) <|
  some (true, (x2 ++ ([x1] : List Int)))

inductive f78_1_p1_R where
  | c0 (a0 : List Int)
  | c1 (a0 : List Int)
def f78_1_p1 (F : Nat) (x4 : List Int) : Nat → Int → (List Int) → Option f78_1_p1_R
  | 0, _, _ => none
  | k + 1, x10, x9 =>
    if (decide (x10 < ((List.length x4 : Nat) : Int))) = true then
      Option.bind (at? x4 x10) fun x11 =>
      if (decide (x11 > 0)) = true then
        Option.bind (f79 F x10 x9) fun (x12, x13) =>
        if x12 = true then
          f78_1_p1 F x4 k (w64 (x10 + 1)) x13
        else
          some (.c0 x13)
      else
        f78_1_p1 F x4 k (w64 (x10 + 1)) x9
    else
      some (.c1 x9)
def f78_1 (F : Nat) (x1 x2 x3 : List Int) : Option (List Int) :=
  Option.bind (f74 F x1 x2) fun x4 =>
  Option.bind (f78_1_p1 F x4 F 0 x3) fun
  | .c0 x14 =>
    some x14
  | .c1 x15 =>
    some x15

def f38 (F : Nat) (x1 x2 : List Int) : Option ((List Int) × Int) :=
  Option.bind (f77 F x1 x2) fun (x3, x4, x5) =>
  if (x5 != 0) = true then
    some (([] : List Int), x5)
  else
    Option.bind (f78_1 F x3 x4 ([] : List Int)) fun x6 =>
    some ((List.drop 0 (List.take (0 + (List.length x6)) x6)), 0)

def f16 (F : Nat) : Option Bool :=
  Option.bind (f52 F ([3, 5] : List Int)) fun x1 =>
  Option.bind (f28 F x1) fun (x2, x3) =>
  Option.bind (f52 F ([6, 10, 15] : List Int)) fun x4 =>
  Option.bind (f30 F x4) fun (x5, x6) =>
  Option.bind (f52 F ([6, 10, 15] : List Int)) fun x7 =>
  Option.bind (f24 F x7 0) fun (x8, x9) =>
  Option.bind (f52 F ([6, 10, 15] : List Int)) fun x10 =>
  Option.bind (f17 F x10 31) fun (x11, x12) =>
  Option.bind (f52 F ([6, 10, 15] : List Int)) fun x13 =>
  Option.bind (f21 F x13 29) fun (x14, x15, x16) =>
  Option.bind (f52 F ([1, 4, 6] : List Int)) fun x17 =>
  Option.bind (f19 F x17 8) fun (x18, x19) =>
  Option.bind (f52 F ([3, 5, 6, 8] : List Int)) fun x20 =>
  Option.bind (f34 F x20) fun (x21, x22) =>
  if (x3 != 0) = true then
    none
  else
  if (x6 != 0) = true then
    none
  else
  if (x9 != 0) = true then
    none
  else
  if (x12 != 0) = true then
    none
  else
  if (x16 != 0) = true then
    none
  else
  if (x19 != 0) = true then
    none
  else
  if (x22 != 0) = true then
    none
  else
    Option.bind (f52 F ([3, 4, 5] : List Int)) fun x23 =>
    Option.bind (f32 F x23) fun (x24, x25) =>
    Option.bind (f52 F ([2, 5] : List Int)) fun x26 =>
    Option.bind (f52 F ([3, 2] : List Int)) fun x27 =>
    Option.bind (f51 F x26 x27 11) fun (x28, x29) =>
    Option.bind (f52 F ([2, 5] : List Int)) fun x30 =>
    Option.bind (f52 F ([5, 2] : List Int)) fun x31 =>
    Option.bind (f36 F x30 x31 10) fun (x32, x33) =>
    Option.bind (f52 F ([2, 5] : List Int)) fun x34 =>
    Option.bind (f52 F ([5, 2] : List Int)) fun x35 =>
    Option.bind (f42 F x34 x35 10 0) fun (x36, x37, x38) =>
    Option.bind (f52 F ([2, 5] : List Int)) fun x39 =>
    Option.bind (f52 F ([1, 1] : List Int)) fun x40 =>
    Option.bind (f38 F x39 x40) fun (x41, x42) =>
    Option.bind (f52 F ([2, 5] : List Int)) fun x43 =>
    Option.bind (f52 F ([1, 1] : List Int)) fun x44 =>
    Option.bind (f40 F x43 x44 3) fun (x45, x46) =>
    Option.bind (f52 F ([2, 5] : List Int)) fun x47 =>
    Option.bind (f52 F ([3, 2] : List Int)) fun x48 =>
    Option.bind (f51 F x47 x48 13) fun (x49, x50) =>
    if (x25 == 0) = true then
      if (x29 == 0) = true then
        if (x33 == 0) = true then
          if (x38 == 0) = true then
            if (x42 == 0) = true then
              if (x46 == 0) = true then
                if (x50 == 12) = true then
                  Option.bind (f52 F ([1, 2, 4, 7] : List Int)) fun x51 =>
                  Option.bind (f23 F x2 x51) fun x52 =>
                  if x52 = true then
                    if (x5 == 29) = true then
                      Option.bind (f52 F ([0, 25, 20, 15, 10, 35] : List Int)) fun x53 =>
                      Option.bind (f23 F x8 x53) fun x54 =>
                      if x54 = true then
                        if x11 = true then
                          if (x14 == 5) = true then
                            if (x15 == 35) = true then
                              Option.bind (f52 F ([0, 2, 0] : List Int)) fun x55 =>
                              Option.bind (f23 F x18 x55) fun x56 =>
                              if x56 = true then
                                Option.bind (f52 F ([0, 1] : List Int)) fun x57 =>
                                Option.bind (f23 F x21 x57) fun x58 =>
                                if x58 = true then
                                  if x24 = true then
                                    none
                                  else
                                    Option.bind (f52 F ([3, 1] : List Int)) fun x59 =>
                                    Option.bind (f23 F x28 x59) fun x60 =>
                                    if x60 = true then
                                      if (x32 == 2) = true then
                                        if (x36 == 0) = true then
                                          if (x37 == 5) = true then
                                            Option.bind (f52 F ([0, 2, 5, 7] : List Int)) fun x61 =>
                                            Option.bind (f23 F x41 x61) fun x62 =>
                                            if x62 = true then
                                              some (x45 == 5)
                                            else
                                              none
                                          else
                                            none
                                        else
                                          none
                                      else
                                        none
                                    else
                                      none
                                else
                                  none
                              else
                                none
                            else
                              none
                          else
                            none
                        else
                          none
                      else
                        none
                    else
                      none
                  else
                    none
                else
                  none
              else
                none
            else
              none
          else
            none
        else
          none
      else
        none
    else
      none

def f87 (F : Nat) (x1 x2 : Int) : Option Bool :=
  req ((x2 : Int) ≠ 0) <|
  some ((Int.tmod x1 x2) != 0)

inductive f104_p1_R where
  | c0 (a0 : Int)
  | c1
def f104_p1 (F : Nat) (x1 : List Int) (x2 : Int) : Nat → Int → Option f104_p1_R
  | 0, _ => none
  | k + 1, x3 =>
    if (decide (x3 < ((List.length x1 : Nat) : Int))) = true then
      Option.bind (at? x1 x3) fun x4 =>
      Option.bind (f87 F x4 x2) fun x5 =>
      if x5 = true then
        some (.c0 x3)
      else
        f104_p1 F x1 x2 k (w64 (x3 + 1))
    else
      some .c1
def f104 (F : Nat) (x1 : List Int) (x2 : Int) : Option Int :=
  Option.bind (f104_p1 F x1 x2 F 0) fun
  | .c0 x6 =>
    some x6
  | .c1 =>
    some (-1)

def f86 (F : Nat) (x1 : List Int) (x2 : Int) : Option Bool :=
  Option.bind (f104 F x1 x2) fun x3 =>
  some (decide (x3 ≥ 0))

inductive f53_p1_R where
  | c0
  | c1
def f53_p1 (F : Nat) (x1 : List Int) : Nat → Int → Option f53_p1_R
  | 0, _ => none
  | k + 1, x4 =>
    Option.bind (f85 F x1) fun x5 =>
    if (decide (x4 ≤ x5)) = true then
      Option.bind (f86 F x1 x4) fun x6 =>
      if x6 = true then
        f53_p1 F x1 k (w64 (x4 + 1))
      else
        some .c0
    else
      some .c1
def f53 (F : Nat) (x1 : List Int) : Option Bool :=
  Option.bind (f53_p1 F x1 F 2) fun
  | .c0 =>
    some true
  | .c1 =>
    some false

def f54_p5_1 (F : Nat) (x1 : List Int) (x2 x14 : Int) : Nat → Int → (List Bool) → Option (List Bool)
  | 0, _, _ => none
  | k + 1, x19, x18 =>
    if (decide (x19 < ((List.length x1 : Nat) : Int))) = true then
      Option.bind (at? x1 x19) fun x20 =>
      req ((0 : Int) ≤ x14 ∧ (x14 : Int) < (((Int.toNat (w64 (x2 + 1))) : Nat) : Int)) <|
      Option.bind ((x18)[(0 + (Int.toNat x14))]?) fun x21 =>
      if x21 = true then
        req ((0 + (Int.toNat x14)) < List.length x18) <|
        f54_p5_1 F x1 x2 x14 k (w64 (x19 + 1)) (List.set x18 (0 + (Int.toNat x14)) true)
      else
      if (decide (x20 ≤ x14)) = true then
        req ((0 : Int) ≤ (w64 (x14 - x20)) ∧ ((w64 (x14 - x20)) : Int) < (((Int.toNat (w64 (x2 + 1))) : Nat) : Int)) <|
        Option.bind ((x18)[(0 + (Int.toNat (w64 (x14 - x20))))]?) fun x22 =>
        req ((0 + (Int.toNat x14)) < List.length x18) <|
        f54_p5_1 F x1 x2 x14 k (w64 (x19 + 1)) (List.set x18 (0 + (Int.toNat x14)) x22)
      else
        req ((0 + (Int.toNat x14)) < List.length x18) <|
        f54_p5_1 F x1 x2 x14 k (w64 (x19 + 1)) (List.set x18 (0 + (Int.toNat x14)) false)
    else
      some x18
def f54_p1 (F : Nat) (x1 : List Int) (x2 : Int) : Nat → Int → (List Bool) → Option (List Bool)
  | 0, _, _ => none
  | k + 1, x14, x13 =>
    if (decide (x14 < (((Int.toNat (w64 (x2 + 1))) : Nat) : Int))) = true then
      req ((0 : Int) ≤ x14 ∧ (x14 : Int) < (((Int.toNat (w64 (x2 + 1))) : Nat) : Int)) <|
      req ((0 + (Int.toNat x14)) < List.length x13) <|
      Option.bind (f54_p5_1 F x1 x2 x14 F 0 (List.set x13 (0 + (Int.toNat x14)) (x14 == 0))) fun x23 =>
      f54_p1 F x1 x2 k (w64 (x14 + 1)) x23
    else
      some x13
def f54 (F : Nat) (x1 : List Int) (x2 : Int) : Option (List Bool) :=
  req ((0 : Int) ≤ (w64 (x2 + 1)) ∧ ((w64 (x2 + 1)) : Int) ≤ (w64 (x2 + 1)) ∧ ((w64 (x2 + 1)) : Int) ≤ 1099511627776) <|
  Option.bind (f54_p1 F x1 x2 F 0 (List.replicate (Int.toNat (w64 (x2 + 1))) (false : Bool))) fun x24 =>
  req ((0 + (Int.toNat (w64 (x2 + 1)))) ≤ List.length x24) <|
  some (List.drop 0 (List.take (0 + (Int.toNat (w64 (x2 + 1)))) x24))

inductive f82_p1_R where
  | c0 (a0 : Int)
  | c1
def f82_p1 (F : Nat) (x1 : List Int) (x2 : Int) : Nat → Int → Option f82_p1_R
  | 0, _ => none
  | k + 1, x3 =>
    if (decide (x3 < ((List.length x1 : Nat) : Int))) = true then
      Option.bind (at? x1 x3) fun x4 =>
      if (x2 == x4) = true then
        some (.c0 x3)
      else
        f82_p1 F x1 x2 k (w64 (x3 + 1))
    else
      some .c1
def f82 (F : Nat) (x1 : List Int) (x2 : Int) : Option Int :=
  Option.bind (f82_p1 F x1 x2 F 0) fun
  | .c0 x5 =>
    some x5
  | .c1 =>
    some (-1)

def f48 (F : Nat) (x1 : List Int) (x2 : Int) : Option Bool :=
  Option.bind (f82 F x1 x2) fun x3 =>
  some (decide (x3 ≥ 0))

def f44_p4_1 (F : Nat) (x4 x5 : Int) (x9 : List Int) (x11 x3 x10 : Int) (x12 : Bool) (x1 x2 : List Int) : Option (List Int) :=
  if x12 = true then
    some x9
  else
    req (List.length x9 + List.length ([(w64 (1 + (Int.tmod (w64 (x11)) x4)))] : List Int) ≤ 1099511627776) <|
    some (x9 ++ ([(w64 (1 + (Int.tmod (w64 (x11)) x4)))] : List Int))
def f44_p1 (F : Nat) (x4 x5 x3 : Int) (x1 x2 : List Int) : Nat → Int → (List Int) → Option (List Int)
  | 0, _, _ => none
  | k + 1, x10, x9 =>
    if (decide (x10 < (w64 (1 + (Int.tmod (w64 (x3)) 4))))) = true then
      req ((0 : Int) ≤ x10 ∧ (x10 : Int) < ((4 : Nat) : Int)) <|
      Option.bind ((x1)[(0 + ((Int.toNat x10) * 1))]?) fun x11 =>
      req ((x4 : Int) ≠ 0) <|
      Option.bind (f48 F (List.drop 0 (List.take (0 + (List.length x9)) x9)) (w64 (1 + (Int.tmod (w64 (x11)) x4)))) fun x12 =>
      Option.bind (f44_p4_1 F x4 x5 x9 x11 x3 x10 x12 x1 x2) fun x13 =>
      f44_p1 F x4 x5 x3 x1 x2 k (w64 (x10 + 1)) x13
    else
      some x9
def f44_p6 (F : Nat) (x5 : Int) (x14 x15 : List Int) (x1 x2 : List Int) (x3 : Int) : Nat → Int → (List Int) → Option (List Int)
  | 0, _, _ => none
  | k + 1, x19, x18 =>
    if (decide (x19 < (((List.length x14) : Nat) : Int))) = true then
      req ((0 : Int) ≤ x19 ∧ (x19 : Int) < ((4 : Nat) : Int)) <|
      Option.bind ((x2)[(0 + ((Int.toNat x19) * 1))]?) fun x20 =>
      req (((w64 (x5 + 1)) : Int) ≠ 0) <|
      req (List.length x18 + List.length ([(Int.tmod (w64 (x20)) (w64 (x5 + 1)))] : List Int) ≤ 1099511627776) <|
      f44_p6 F x5 x14 x15 x1 x2 x3 k (w64 (x19 + 1)) (x18 ++ ([(Int.tmod (w64 (x20)) (w64 (x5 + 1)))] : List Int))
    else
      some x18
def f44 (F : Nat) (x1 x2 : List Int) (x3 x4 x5 : Int) : Option ((List Int) × (List Int)) :=
  Option.bind (f44_p1 F x4 x5 x3 x1 x2 F 0 ([] : List Int)) fun x14 =>
  Option.bind (f49 F x14) fun x15 =>
  Option.bind (f44_p6 F x5 x14 x15 x1 x2 x3 F 0 ([] : List Int)) fun x21 =>
  req ((0 + (List.length x14)) ≤ List.length x15) <|
  some ((List.drop 0 (List.take (0 + (List.length x14)) x15)), (List.drop 0 (List.take (0 + (List.length x21)) x21)))

def f11_p9 (F : Nat) (x6 : List Int) (x5 x8 : Int) (x11 : List Bool) (x12 x13 : Int) (x14 : Bool) (x16 x17 x18 : Int) (x9 : List Int) (x15 : Int) (x19 : Bool) : Option Int :=
  if x19 = true then
    some x18
  else
    some x17
def f11_p6 (F : Nat) (x6 : List Int) (x5 x8 : Int) (x11 : List Bool) (x12 x13 : Int) (x14 : Bool) (x16 : Int) (x9 : List Int) (x15 : Int) : Nat → Int → Int → Option Int
  | 0, _, _ => none
  | k + 1, x17, x18 =>
    if (decide (x18 < ((List.length x11 : Nat) : Int))) = true then
      if (decide (x17 < 0)) = true then
        Option.bind (at? x11 x18) fun x19 =>
        Option.bind (f11_p9 F x6 x5 x8 x11 x12 x13 x14 x16 x17 x18 x9 x15 x19) fun x20 =>
        f11_p6 F x6 x5 x8 x11 x12 x13 x14 x16 x9 x15 k x20 (w64 (x18 + x8))
      else
        some x17
    else
      some x17
inductive f11_p2_R where
  | c0
  | c1 (a0 : Int) (a1 : Int) (a2 : Bool)
def f11_p2 (F : Nat) (x6 : List Int) (x5 x8 : Int) (x11 : List Bool) (x9 : List Int) : Nat → Int → Int → Bool → Int → Option f11_p2_R
  | 0, _, _, _, _ => none
  | k + 1, x12, x13, x14, x15 =>
    if (decide (x15 < ((List.length x9 : Nat) : Int))) = true then
      Option.bind (at? x9 x15) fun x16 =>
      Option.bind (f11_p6 F x6 x5 x8 x11 x12 x13 x14 x16 x9 x15 F (-1) x15) fun x21 =>
      if (x16 != x21) = true then
        some .c0
      else
      if x14 = true then
        f11_p2 F x6 x5 x8 x11 x9 k (w64 (x12 + x16)) (if (w64 (x16 - x8)) > x13 then (w64 (x16 - x8)) else x13) (decide (x16 ≥ 0)) (w64 (x15 + 1))
      else
        f11_p2 F x6 x5 x8 x11 x9 k (w64 (x12 + x16)) (if (w64 (x16 - x8)) > x13 then (w64 (x16 - x8)) else x13) false (w64 (x15 + 1))
    else
      some (.c1 x12 x13 x14)
def f11_p18 (F : Nat) (x6 : List Int) (x5 x8 : Int) (x11 : List Bool) (x22 x23 : Int) (x24 : Bool) (x27 x28 : Int) (x29 x32 x33 : Int) (x34 : Bool) : Option Int :=
  if x34 = true then
    some x33
  else
    some x32
def f11_p15 (F : Nat) (x6 : List Int) (x5 x8 : Int) (x11 : List Bool) (x22 x23 : Int) (x24 : Bool) (x27 x28 x29 : Int) : Nat → Int → Int → Option Int
  | 0, _, _ => none
  | k + 1, x32, x33 =>
    if (decide (x33 < ((List.length x11 : Nat) : Int))) = true then
      if (decide (x32 < 0)) = true then
        Option.bind (at? x11 x33) fun x34 =>
        Option.bind (f11_p18 F x6 x5 x8 x11 x22 x23 x24 x27 x28 x29 x32 x33 x34) fun x35 =>
        Option.bind (at? x6 0) fun x36 =>
        f11_p15 F x6 x5 x8 x11 x22 x23 x24 x27 x28 x29 k x35 (w64 (x33 + x36))
      else
        some x32
    else
      some x32
inductive f11_p12_R where
  | c0
  | c1
def f11_p12 (F : Nat) (x6 : List Int) (x5 x8 : Int) (x11 : List Bool) (x22 x23 : Int) (x24 : Bool) (x27 x28 x29 : Int) (x25 : Bool) : Option f11_p12_R :=
  if x25 = true then
    if (x29 != 13) = true then
      some .c0
    else
    if (x27 != 0) = true then
      some .c0
    else
    if (x28 != 0) = true then
      some .c0
    else
      some .c1
  else
    Option.bind (at? x6 0) fun x31 =>
    req ((x31 : Int) ≠ 0) <|
    Option.bind (f11_p15 F x6 x5 x8 x11 x22 x23 x24 x27 x28 x29 F (-1) (Int.tmod (Int.tmod (w64 (x5)) 1001) x31)) fun x37 =>
    if (x29 != 0) = true then
      some .c0
    else
    if (x27 != (Int.tmod (Int.tmod (w64 (x5)) 1001) x31)) = true then
      some .c0
    else
    if (x28 != x37) = true then
      some .c0
    else
    if (decide (x37 ≥ 0)) = true then
      if (decide (x37 ≤ (Int.tmod (w64 (x5)) 1001))) = true then
        some .c0
      else
        some .c1
    else
      some .c1
def f11 (F : Nat) (x1 x2 : List Int) (x3 x4 x5 : Int) : Option Bool :=
  Option.bind (f44 F x1 x2 x3 30 1) fun (x6, x7) =>
  req ((((List.length x6 : Nat) : Int) : Int) ≠ 0) <|
  Option.bind (at? x6 (Int.tmod (w64 (x4)) ((List.length x6 : Nat) : Int))) fun x8 =>
  Option.bind (f24 F x6 (Int.tmod (w64 (x4)) ((List.length x6 : Nat) : Int))) fun (x9, x10) =>
  if (x10 != 0) = true then
    none
  else
  if (((List.length x9 : Nat) : Int) != x8) = true then
    none
  else
    Option.bind (f54 F x6 2000) fun x11 =>
    Option.bind (f11_p2 F x6 x5 x8 x11 x9 F 0 (-1) true 0) fun
    | .c0 =>
      none
    | .c1 x22 x23 x24 =>
      Option.bind (f17 F x6 (Int.tmod (w64 (x5)) 1001)) fun (x25, x26) =>
      Option.bind (f21 F x6 (Int.tmod (w64 (x5)) 1001)) fun (x27, x28, x29) =>
      if (x26 != 0) = true then
        none
      else
        Option.bind (at? x11 (Int.tmod (w64 (x5)) 1001)) fun x30 =>
        if (x25 == x30) = true then
          Option.bind (f11_p12 F x6 x5 x8 x11 x22 x23 x24 x27 x28 x29 x25) fun
          | .c0 =>
            none
          | .c1 =>
            Option.bind (f28 F x6) fun (x38, x39) =>
            Option.bind (f30 F x6) fun (x40, x41) =>
            Option.bind (f53 F x6) fun x42 =>
            if (x24 == x42) = true then
              none
            else
            if x24 = true then
              if (x39 != 0) = true then
                none
              else
              if ((w64 (x8 * ((List.length x38 : Nat) : Int))) != (w64 (x22 - (w64 (Int.tdiv (w64 (x8 * (w64 (x8 - 1)))) 2))))) = true then
                none
              else
              if (((List.length x38 : Nat) : Int) == 0) = true then
                if (x41 == 12) = true then
                  if (decide (x23 < 1)) = true then
                    Option.bind (f16 F) fun x43 =>
                    some x43
                  else
                    none
                else
                  none
              else
              if (x41 == 0) = true then
                if (x40 == x23) = true then
                  if (decide ((w64 (2 * ((List.length x38 : Nat) : Int))) ≥ (w64 (x40 + 1)))) = true then
                    Option.bind (f16 F) fun x44 =>
                    some x44
                  else
                    none
                else
                  none
              else
                none
            else
            if (x39 == 15) = true then
              if (x41 == 15) = true then
                Option.bind (f16 F) fun x45 =>
                some x45
              else
                none
            else
              none
        else
          none

end Go.Gh.Pack
