/- Bunch13N0: printed by wip/tool/gx.py -/
import Derived.Test.YtegnegeoodkpcaaGhPl
namespace Go.Gh.Bunch
set_option linter.unusedVariables false
set_option linter.unusedSimpArgs false

def str0 : ByteArray := ⟨#[0, 1, 2, 2, 3, 3, 3, 3, 4, 4, 4, 4, 4, 4, 4, 4, 5, 5, 5, 5, 5, 5, 5, 5, 5, 5, 5, 5, 5, 5, 5, 5, 6, 6, 6, 6, 6, 6, 6, 6, 6, 6, 6, 6, 6, 6, 6, 6, 6, 6, 6, 6, 6, 6, 6, 6, 6, 6, 6, 6, 6, 6, 6, 6, 7, 7, 7, 7, 7, 7, 7, 7, 7, 7, 7, 7, 7, 7, 7, 7, 7, 7, 7, 7, 7, 7, 7, 7, 7, 7, 7, 7, 7, 7, 7, 7, 7, 7, 7, 7, 7, 7, 7, 7, 7, 7, 7, 7, 7, 7, 7, 7, 7, 7, 7, 7, 7, 7, 7, 7, 7, 7, 7, 7, 7, 7, 7, 7, 8, 8, 8, 8, 8, 8, 8, 8, 8, 8, 8, 8, 8, 8, 8, 8, 8, 8, 8, 8, 8, 8, 8, 8, 8, 8, 8, 8, 8, 8, 8, 8, 8, 8, 8, 8, 8, 8, 8, 8, 8, 8, 8, 8, 8, 8, 8, 8, 8, 8, 8, 8, 8, 8, 8, 8, 8, 8, 8, 8, 8, 8, 8, 8, 8, 8, 8, 8, 8, 8, 8, 8, 8, 8, 8, 8, 8, 8, 8, 8, 8, 8, 8, 8, 8, 8, 8, 8, 8, 8, 8, 8, 8, 8, 8, 8, 8, 8, 8, 8, 8, 8, 8, 8, 8, 8, 8, 8, 8, 8, 8, 8, 8, 8, 8, 8, 8, 8, 8, 8, 8, 8, 8, 8, 8, 8, 8, 8]⟩
def f106_p0 (F : Nat) (x1 : Int) : Option (Int × Int) :=
  if (decide (x1 ≥ 4294967296)) = true then
    some ((iShr .u64 x1 32), 32)
  else
    some (x1, 0)
def f106_p1 (F : Nat) (x2 x3 : Int) : Option (Int × Int) :=
  if (decide (x2 ≥ 65536)) = true then
    some ((iShr .u64 x2 16), (w64 (x3 + 16)))
  else
    some (x2, x3)
def f106_p2 (F : Nat) (x4 x5 : Int) : Option (Int × Int) :=
  if (decide (x4 ≥ 256)) = true then
    some ((iShr .u64 x4 8), (w64 (x5 + 8)))
  else
    some (x4, x5)
def f106 (F : Nat) (x1 : Int) : Option Int :=
  Option.bind (f106_p0 F x1) fun (x2, x3) =>
  Option.bind (f106_p1 F x2 x3) fun (x4, x5) =>
  Option.bind (f106_p2 F x4 x5) fun (x6, x7) =>
  req ((0 : Int) ≤ (IntKind.wrap .u8 (x6)) ∧ ((IntKind.wrap .u8 (x6)) : Int) < ((256 : Nat) : Int)) <|
  some (w64 (x7 + (w64 ((strAt str0 (IntKind.wrap .u8 (x6)))))))

def f92 (F : Nat) (x1 : Int) : Option Int :=
  Option.bind (f106 F x1) fun x2 =>
  some x2

def f120 (F : Nat) (x1 : Int) : Option Bool :=
  some (x1 != x1)

def f102 (F : Nat) (x1 x2 : Int) : Option Bool :=
  Option.bind (f120 F x1) fun x3 =>
  if x3 = true then
    Option.bind (f120 F x2) fun x4 =>
    if x4 = true then
      some (decide (x1 < x2))
    else
      some true
  else
    some (decide (x1 < x2))

def f96_p5_1 (F : Nat) (x1 x2 : Nat) (x3 x4 x18 : Int) : Nat → Int → (List Int) → Option (List Int)
  | 0, _, _ => none
  | k + 1, x24, x23 =>
    if (decide (x24 > x3)) = true then
      req ((0 : Int) ≤ x24 ∧ (x24 : Int) < ((x2 : Nat) : Int)) <|
      Option.bind ((x23)[(x1 + (Int.toNat x24))]?) fun x25 =>
      req ((0 : Int) ≤ (w64 (x24 - 1)) ∧ ((w64 (x24 - 1)) : Int) < ((x2 : Nat) : Int)) <|
      Option.bind ((x23)[(x1 + (Int.toNat (w64 (x24 - 1))))]?) fun x26 =>
      Option.bind (f102 F x25 x26) fun x27 =>
      if x27 = true then
        req ((x1 + (Int.toNat x24)) < List.length x23) <|
        req ((x1 + (Int.toNat (w64 (x24 - 1)))) < List.length (List.set x23 (x1 + (Int.toNat x24)) x26)) <|
        f96_p5_1 F x1 x2 x3 x4 x18 k (w64 (x24 - 1)) (List.set (List.set x23 (x1 + (Int.toNat x24)) x26) (x1 + (Int.toNat (w64 (x24 - 1)))) x25)
      else
        some x23
    else
      some x23
def f96_p1 (F : Nat) (x1 x2 : Nat) (x3 x4 : Int) : Nat → Int → (List Int) → Option (List Int)
  | 0, _, _ => none
  | k + 1, x18, x17 =>
    if (decide (x18 < x4)) = true then
      Option.bind (f96_p5_1 F x1 x2 x3 x4 x18 F x18 x17) fun x28 =>
      f96_p1 F x1 x2 x3 x4 k (w64 (x18 + 1)) x28
    else
      some x17
def f96 (F : Nat) (x1 x2 : Nat) (x3 x4 : Int) (x5 : List Int) : Option (List Int) :=
  Option.bind (f96_p1 F x1 x2 x3 x4 F (w64 (x3 + 1)) x5) fun x29 =>
  some x29

def f115_p4_1 (F : Nat) (x1 x2 : Nat) (x4 x5 x16 : Int) (x19 : Bool) (x15 : List Int) : Option Int :=
  if x19 = true then
    some (w64 ((w64 ((w64 (2 * x16)) + 1)) + 1))
  else
    some (w64 ((w64 (2 * x16)) + 1))
inductive f115_p1_R where
  | c0 (a0 : List Int)
  | c1 (a0 : List Int)
def f115_p1 (F : Nat) (x1 x2 : Nat) (x4 x5 : Int) : Nat → Int → (List Int) → Option f115_p1_R
  | 0, _, _ => none
  | k + 1, x16, x15 =>
    if (decide ((w64 ((w64 (2 * x16)) + 1)) ≥ x4)) = true then
      some (.c0 x15)
    else
    if (decide ((w64 ((w64 ((w64 (2 * x16)) + 1)) + 1)) < x4)) = true then
      req ((0 : Int) ≤ (w64 (x5 + (w64 ((w64 (2 * x16)) + 1)))) ∧ ((w64 (x5 + (w64 ((w64 (2 * x16)) + 1)))) : Int) < ((x2 : Nat) : Int)) <|
      Option.bind ((x15)[(x1 + (Int.toNat (w64 (x5 + (w64 ((w64 (2 * x16)) + 1))))))]?) fun x17 =>
      req ((0 : Int) ≤ (w64 ((w64 (x5 + (w64 ((w64 (2 * x16)) + 1)))) + 1)) ∧ ((w64 ((w64 (x5 + (w64 ((w64 (2 * x16)) + 1)))) + 1)) : Int) < ((x2 : Nat) : Int)) <|
      Option.bind ((x15)[(x1 + (Int.toNat (w64 ((w64 (x5 + (w64 ((w64 (2 * x16)) + 1)))) + 1))))]?) fun x18 =>
      Option.bind (f102 F x17 x18) fun x19 =>
      Option.bind (f115_p4_1 F x1 x2 x4 x5 x16 x19 x15) fun x20 =>
      req ((0 : Int) ≤ (w64 (x5 + x16)) ∧ ((w64 (x5 + x16)) : Int) < ((x2 : Nat) : Int)) <|
      Option.bind ((x15)[(x1 + (Int.toNat (w64 (x5 + x16))))]?) fun x21 =>
      req ((0 : Int) ≤ (w64 (x5 + x20)) ∧ ((w64 (x5 + x20)) : Int) < ((x2 : Nat) : Int)) <|
      Option.bind ((x15)[(x1 + (Int.toNat (w64 (x5 + x20))))]?) fun x22 =>
      Option.bind (f102 F x21 x22) fun x23 =>
      if x23 = true then
        req ((x1 + (Int.toNat (w64 (x5 + x16)))) < List.length x15) <|
        req ((x1 + (Int.toNat (w64 (x5 + x20)))) < List.length (List.set x15 (x1 + (Int.toNat (w64 (x5 + x16)))) x22)) <|
        f115_p1 F x1 x2 x4 x5 k x20 (List.set (List.set x15 (x1 + (Int.toNat (w64 (x5 + x16)))) x22) (x1 + (Int.toNat (w64 (x5 + x20)))) x21)
      else
        some (.c1 x15)
    else
      req ((0 : Int) ≤ (w64 (x5 + x16)) ∧ ((w64 (x5 + x16)) : Int) < ((x2 : Nat) : Int)) <|
      Option.bind ((x15)[(x1 + (Int.toNat (w64 (x5 + x16))))]?) fun x24 =>
      req ((0 : Int) ≤ (w64 (x5 + (w64 ((w64 (2 * x16)) + 1)))) ∧ ((w64 (x5 + (w64 ((w64 (2 * x16)) + 1)))) : Int) < ((x2 : Nat) : Int)) <|
      Option.bind ((x15)[(x1 + (Int.toNat (w64 (x5 + (w64 ((w64 (2 * x16)) + 1))))))]?) fun x25 =>
      Option.bind (f102 F x24 x25) fun x26 =>
      if x26 = true then
        req ((x1 + (Int.toNat (w64 (x5 + x16)))) < List.length x15) <|
        req ((x1 + (Int.toNat (w64 (x5 + (w64 ((w64 (2 * x16)) + 1)))))) < List.length (List.set x15 (x1 + (Int.toNat (w64 (x5 + x16)))) x25)) <|
        f115_p1 F x1 x2 x4 x5 k (w64 ((w64 (2 * x16)) + 1)) (List.set (List.set x15 (x1 + (Int.toNat (w64 (x5 + x16)))) x25) (x1 + (Int.toNat (w64 (x5 + (w64 ((w64 (2 * x16)) + 1)))))) x24)
      else
        some (.c1 x15)
def f115 (F : Nat) (x1 x2 : Nat) (x3 x4 x5 : Int) (x6 : List Int) : Option (List Int) :=
  Option.bind (f115_p1 F x1 x2 x4 x5 F x3 x6) fun
  | .c0 x27 =>
    some x27
  | .c1 x28 =>
    some x28

def f97_p1 (F : Nat) (x1 x2 : Nat) (x3 x4 : Int) : Nat → Int → (List Int) → Option (List Int)
  | 0, _, _ => none
  | k + 1, x9, x8 =>
    if (decide (x9 ≥ 0)) = true then
      Option.bind (f115 F x1 x2 x9 (w64 (x4 - x3)) x3 x8) fun x10 =>
      f97_p1 F x1 x2 x3 x4 k (w64 (x9 - 1)) x10
    else
      some x8
def f97_p5 (F : Nat) (x1 x2 : Nat) (x3 : Int) : Nat → Int → (List Int) → Option (List Int)
  | 0, _, _ => none
  | k + 1, x17, x16 =>
    if (decide (x17 ≥ 0)) = true then
      req ((0 : Int) ≤ (w64 (x3 + x17)) ∧ ((w64 (x3 + x17)) : Int) < ((x2 : Nat) : Int)) <|
      Option.bind ((x16)[(x1 + (Int.toNat (w64 (x3 + x17))))]?) fun x18 =>
      req ((0 : Int) ≤ x3 ∧ (x3 : Int) < ((x2 : Nat) : Int)) <|
      Option.bind ((x16)[(x1 + (Int.toNat x3))]?) fun x19 =>
      req ((x1 + (Int.toNat x3)) < List.length x16) <|
      req ((x1 + (Int.toNat (w64 (x3 + x17)))) < List.length (List.set x16 (x1 + (Int.toNat x3)) x18)) <|
      Option.bind (f115 F x1 x2 0 x17 x3 (List.set (List.set x16 (x1 + (Int.toNat x3)) x18) (x1 + (Int.toNat (w64 (x3 + x17)))) x19)) fun x20 =>
      f97_p5 F x1 x2 x3 k (w64 (x17 - 1)) x20
    else
      some x16
def f97 (F : Nat) (x1 x2 : Nat) (x3 x4 : Int) (x5 : List Int) : Option (List Int) :=
  Option.bind (f97_p1 F x1 x2 x3 x4 F (w64 (Int.tdiv (w64 ((w64 (x4 - x3)) - 1)) 2)) x5) fun x11 =>
  Option.bind (f97_p5 F x1 x2 x3 F (w64 ((w64 (x4 - x3)) - 1)) x11) fun x21 =>
  some x21

def f116 (F : Nat) (x1 : Int) : Option Int :=
  Option.bind (f92 F (IntKind.wrap .u64 (x1))) fun x2 =>
  req ((0 : Int) ≤ x2) <|
  some (iShl .u64 1 x2)

def f117 (F : Nat) (x1 : Int) : Option (Int × Int) :=
  some ((iXor .u64 (iXor .u64 (iXor .u64 x1 (iShl .u64 x1 13)) (iShr .u64 (iXor .u64 x1 (iShl .u64 x1 13)) 7)) (iShl .u64 (iXor .u64 (iXor .u64 x1 (iShl .u64 x1 13)) (iShr .u64 (iXor .u64 x1 (iShl .u64 x1 13)) 7)) 17)), (iXor .u64 (iXor .u64 (iXor .u64 x1 (iShl .u64 x1 13)) (iShr .u64 (iXor .u64 x1 (iShl .u64 x1 13)) 7)) (iShl .u64 (iXor .u64 (iXor .u64 x1 (iShl .u64 x1 13)) (iShr .u64 (iXor .u64 x1 (iShl .u64 x1 13)) 7)) 17)))

def f98_p5_1 (F : Nat) (x1 x2 : Nat) (x3 x4 : Int) (x6 x14 x16 : Int) (x13 : List Int) (x17 : Int) : Option Int :=
  if (decide ((w64 ((iAnd .u64 x16 (IntKind.wrap .u64 (x6 - 1))))) ≥ (w64 (x4 - x3)))) = true then
    some (w64 ((w64 ((iAnd .u64 x16 (IntKind.wrap .u64 (x6 - 1))))) - (w64 (x4 - x3))))
  else
    some (w64 ((iAnd .u64 x16 (IntKind.wrap .u64 (x6 - 1)))))
def f98_p2 (F : Nat) (x1 x2 : Nat) (x3 x4 x6 : Int) : Nat → Int → (List Int) → Int → Option (List Int)
  | 0, _, _, _ => none
  | k + 1, x14, x13, x15 =>
    if (decide (x14 ≤ (w64 ((w64 (x3 + (w64 ((w64 (Int.tdiv (w64 (x4 - x3)) 4)) * 2)))) + 1)))) = true then
      Option.bind (f117 F x15) fun (x16, x17) =>
      Option.bind (f98_p5_1 F x1 x2 x3 x4 x6 x14 x16 x13 x17) fun x18 =>
      req ((0 : Int) ≤ (w64 (x3 + x18)) ∧ ((w64 (x3 + x18)) : Int) < ((x2 : Nat) : Int)) <|
      Option.bind ((x13)[(x1 + (Int.toNat (w64 (x3 + x18))))]?) fun x19 =>
      req ((0 : Int) ≤ x14 ∧ (x14 : Int) < ((x2 : Nat) : Int)) <|
      Option.bind ((x13)[(x1 + (Int.toNat x14))]?) fun x20 =>
      req ((x1 + (Int.toNat x14)) < List.length x13) <|
      req ((x1 + (Int.toNat (w64 (x3 + x18)))) < List.length (List.set x13 (x1 + (Int.toNat x14)) x19)) <|
      f98_p2 F x1 x2 x3 x4 x6 k (w64 (x14 + 1)) (List.set (List.set x13 (x1 + (Int.toNat x14)) x19) (x1 + (Int.toNat (w64 (x3 + x18)))) x20) x17
    else
      some x13
def f98_p0 (F : Nat) (x1 x2 : Nat) (x3 x4 : Int) (x5 : List Int) : Option (List Int) :=
  if (decide ((w64 (x4 - x3)) ≥ 8)) = true then
    Option.bind (f116 F (w64 (x4 - x3))) fun x6 =>
    Option.bind (f98_p2 F x1 x2 x3 x4 x6 F (w64 ((w64 (x3 + (w64 ((w64 (Int.tdiv (w64 (x4 - x3)) 4)) * 2)))) - 1)) x5 (IntKind.wrap .u64 ((w64 (x4 - x3))))) fun x21 =>
    some x21
  else
    some x5
def f98 (F : Nat) (x1 x2 : Nat) (x3 x4 : Int) (x5 : List Int) : Option (List Int) :=
  Option.bind (f98_p0 F x1 x2 x3 x4 x5) fun x22 =>
  some x22

def f124 (F : Nat) (x1 x2 : Nat) (x3 x4 : Int) (x5 : List Int) (x6 : Int) : Option (Int × Int × Int) :=
  req ((0 : Int) ≤ x4 ∧ (x4 : Int) < ((x2 : Nat) : Int)) <|
  Option.bind ((x5)[(x1 + (Int.toNat x4))]?) fun x7 =>
  req ((0 : Int) ≤ x3 ∧ (x3 : Int) < ((x2 : Nat) : Int)) <|
  Option.bind ((x5)[(x1 + (Int.toNat x3))]?) fun x8 =>
  Option.bind (f102 F x7 x8) fun x9 =>
  if x9 = true then
    some (x4, x3, (w64 (x6 + 1)))
  else
    some (x3, x4, x6)

def f119 (F : Nat) (x1 x2 : Nat) (x3 x4 x5 : Int) (x6 : List Int) (x7 : Int) : Option (Int × Int) :=
  Option.bind (f124 F x1 x2 x3 x4 x6 x7) fun (x8, x9, x10) =>
  Option.bind (f124 F x1 x2 x9 x5 x6 x10) fun (x11, x12, x13) =>
  Option.bind (f124 F x1 x2 x8 x11 x6 x13) fun (x14, x15, x16) =>
  some (x15, x16)

def f118 (F : Nat) (x1 x2 : Nat) (x3 : Int) (x4 : List Int) (x5 : Int) : Option (Int × Int) :=
  Option.bind (f119 F x1 x2 (w64 (x3 - 1)) x3 (w64 (x3 + 1)) x4 x5) fun (x6, x7) =>
  some (x6, x7)

def f99_p1 (F : Nat) (x1 x2 : Nat) (x3 x4 : Int) (x5 : List Int) : Option (Int × Int × Int × Int) :=
  if (decide ((w64 (x4 - x3)) ≥ 50)) = true then
    Option.bind (f118 F x1 x2 (w64 (x3 + (w64 ((w64 (Int.tdiv (w64 (x4 - x3)) 4)) * 1)))) x5 0) fun (x6, x7) =>
    Option.bind (f118 F x1 x2 (w64 (x3 + (w64 ((w64 (Int.tdiv (w64 (x4 - x3)) 4)) * 2)))) x5 x7) fun (x8, x9) =>
    Option.bind (f118 F x1 x2 (w64 (x3 + (w64 ((w64 (Int.tdiv (w64 (x4 - x3)) 4)) * 3)))) x5 x9) fun (x10, x11) =>
    some (x6, x8, x10, x11)
  else
    some ((w64 (x3 + (w64 ((w64 (Int.tdiv (w64 (x4 - x3)) 4)) * 1)))), (w64 (x3 + (w64 ((w64 (Int.tdiv (w64 (x4 - x3)) 4)) * 2)))), (w64 (x3 + (w64 ((w64 (Int.tdiv (w64 (x4 - x3)) 4)) * 3)))), 0)
def f99_p0 (F : Nat) (x1 x2 : Nat) (x4 x3 : Int) (x5 : List Int) : Option (Int × Int) :=
  if (decide ((w64 (x4 - x3)) ≥ 8)) = true then
    Option.bind (f99_p1 F x1 x2 x3 x4 x5) fun (x12, x13, x14, x15) =>
    Option.bind (f119 F x1 x2 x12 x13 x14 x5 x15) fun (x16, x17) =>
    some (x16, x17)
  else
    some ((w64 (x3 + (w64 ((w64 (Int.tdiv (w64 (x4 - x3)) 4)) * 2)))), 0)
def f99 (F : Nat) (x1 x2 : Nat) (x3 x4 : Int) (x5 : List Int) : Option (Int × Int) :=
  Option.bind (f99_p0 F x1 x2 x4 x3 x5) fun (x18, x19) =>
  if (x19 == 0) = true then
    some (x18, 1)
  else
  if (x19 == 12) = true then
    some (x18, 2)
  else
    some (x18, 0)

def f100_p1 (F : Nat) (x1 x2 : Nat) : Nat → Int → Int → (List Int) → Option (List Int)
  | 0, _, _, _ => none
  | k + 1, x11, x12, x10 =>
    if (decide (x11 < x12)) = true then
      req ((0 : Int) ≤ x12 ∧ (x12 : Int) < ((x2 : Nat) : Int)) <|
      Option.bind ((x10)[(x1 + (Int.toNat x12))]?) fun x13 =>
      req ((0 : Int) ≤ x11 ∧ (x11 : Int) < ((x2 : Nat) : Int)) <|
      Option.bind ((x10)[(x1 + (Int.toNat x11))]?) fun x14 =>
      req ((x1 + (Int.toNat x11)) < List.length x10) <|
      req ((x1 + (Int.toNat x12)) < List.length (List.set x10 (x1 + (Int.toNat x11)) x13)) <|
      f100_p1 F x1 x2 k (w64 (x11 + 1)) (w64 (x12 - 1)) (List.set (List.set x10 (x1 + (Int.toNat x11)) x13) (x1 + (Int.toNat x12)) x14)
    else
      some x10
def f100 (F : Nat) (x1 x2 : Nat) (x3 x4 : Int) (x5 : List Int) : Option (List Int) :=
  Option.bind (f100_p1 F x1 x2 F x3 (w64 (x4 - 1)) x5) fun x15 =>
  some x15

def f101_p5_1 (F : Nat) (x1 x2 : Nat) (x3 x4 x39 : Int) (x37 : List Int) : Nat → Int → Option Int
  | 0, _ => none
  | k + 1, x40 =>
    if (decide (x40 < x4)) = true then
      req ((0 : Int) ≤ x40 ∧ (x40 : Int) < ((x2 : Nat) : Int)) <|
      Option.bind ((x37)[(x1 + (Int.toNat x40))]?) fun x41 =>
      req ((0 : Int) ≤ (w64 (x40 - 1)) ∧ ((w64 (x40 - 1)) : Int) < ((x2 : Nat) : Int)) <|
      Option.bind ((x37)[(x1 + (Int.toNat (w64 (x40 - 1))))]?) fun x42 =>
      Option.bind (f102 F x41 x42) fun x43 =>
      if x43 = true then
        some x40
      else
        f101_p5_1 F x1 x2 x3 x4 x39 x37 k (w64 (x40 + 1))
    else
      some x40
def f101_p12_1 (F : Nat) (x1 x2 : Nat) (x3 x4 : Int) (x44 x39 : Int) : Nat → Int → (List Int) → Option (List Int)
  | 0, _, _ => none
  | k + 1, x52, x51 =>
    if (decide (x52 ≥ 1)) = true then
      req ((0 : Int) ≤ x52 ∧ (x52 : Int) < ((x2 : Nat) : Int)) <|
      Option.bind ((x51)[(x1 + (Int.toNat x52))]?) fun x53 =>
      req ((0 : Int) ≤ (w64 (x52 - 1)) ∧ ((w64 (x52 - 1)) : Int) < ((x2 : Nat) : Int)) <|
      Option.bind ((x51)[(x1 + (Int.toNat (w64 (x52 - 1))))]?) fun x54 =>
      Option.bind (f102 F x53 x54) fun x55 =>
      if x55 = true then
        req ((x1 + (Int.toNat x52)) < List.length x51) <|
        req ((x1 + (Int.toNat (w64 (x52 - 1)))) < List.length (List.set x51 (x1 + (Int.toNat x52)) x54)) <|
        f101_p12_1 F x1 x2 x3 x4 x44 x39 k (w64 (x52 - 1)) (List.set (List.set x51 (x1 + (Int.toNat x52)) x54) (x1 + (Int.toNat (w64 (x52 - 1)))) x53)
      else
        some x51
    else
      some x51
def f101_p10_1 (F : Nat) (x1 x2 : Nat) (x3 x4 : Int) (x44 x39 : Int) (x37 : List Int) (x45 x46 : Int) : Option (List Int) :=
  if (decide ((w64 (x44 - x3)) ≥ 2)) = true then
    Option.bind (f101_p12_1 F x1 x2 x3 x4 x44 x39 F (w64 (x44 - 1)) (List.set (List.set x37 (x1 + (Int.toNat x44)) x45) (x1 + (Int.toNat (w64 (x44 - 1)))) x46)) fun x56 =>
    some x56
  else
    some (List.set (List.set x37 (x1 + (Int.toNat x44)) x45) (x1 + (Int.toNat (w64 (x44 - 1)))) x46)
def f101_p18_1 (F : Nat) (x1 x2 : Nat) (x3 x4 : Int) (x44 x39 : Int) : Nat → Int → (List Int) → Option (List Int)
  | 0, _, _ => none
  | k + 1, x63, x62 =>
    if (decide (x63 < x4)) = true then
      req ((0 : Int) ≤ x63 ∧ (x63 : Int) < ((x2 : Nat) : Int)) <|
      Option.bind ((x62)[(x1 + (Int.toNat x63))]?) fun x64 =>
      req ((0 : Int) ≤ (w64 (x63 - 1)) ∧ ((w64 (x63 - 1)) : Int) < ((x2 : Nat) : Int)) <|
      Option.bind ((x62)[(x1 + (Int.toNat (w64 (x63 - 1))))]?) fun x65 =>
      Option.bind (f102 F x64 x65) fun x66 =>
      if x66 = true then
        req ((x1 + (Int.toNat x63)) < List.length x62) <|
        req ((x1 + (Int.toNat (w64 (x63 - 1)))) < List.length (List.set x62 (x1 + (Int.toNat x63)) x65)) <|
        f101_p18_1 F x1 x2 x3 x4 x44 x39 k (w64 (x63 + 1)) (List.set (List.set x62 (x1 + (Int.toNat x63)) x65) (x1 + (Int.toNat (w64 (x63 - 1)))) x64)
      else
        some x62
    else
      some x62
def f101_p16_1 (F : Nat) (x1 x2 : Nat) (x3 x4 : Int) (x44 x39 : Int) (x57 : List Int) : Option (List Int) :=
  if (decide ((w64 (x4 - x44)) ≥ 2)) = true then
    Option.bind (f101_p18_1 F x1 x2 x3 x4 x44 x39 F (w64 (x44 + 1)) x57) fun x67 =>
    some x67
  else
    some x57
inductive f101_p1_8_R where
  | c0 (a0 : Bool) (a1 : List Int)
  | c1 (a0 : List Int)
def f101_p1_8 (F : Nat) (x1 x2 : Nat) (x3 x4 : Int) : Nat → Int → Int → (List Int) → Option f101_p1_8_R
  | 0, _, _, _ => none
  | k + 1, x38, x39, x37 =>
    if (decide (x39 < 5)) = true then
      Option.bind (f101_p5_1 F x1 x2 x3 x4 x39 x37 F x38) fun x44 =>
      if (x44 == x4) = true then
        some (.c0 true x37)
      else
      if (decide ((w64 (x4 - x3)) < 50)) = true then
        some (.c0 false x37)
      else
        req ((0 : Int) ≤ (w64 (x44 - 1)) ∧ ((w64 (x44 - 1)) : Int) < ((x2 : Nat) : Int)) <|
        Option.bind ((x37)[(x1 + (Int.toNat (w64 (x44 - 1))))]?) fun x45 =>
        req ((0 : Int) ≤ x44 ∧ (x44 : Int) < ((x2 : Nat) : Int)) <|
        Option.bind ((x37)[(x1 + (Int.toNat x44))]?) fun x46 =>
        req ((x1 + (Int.toNat x44)) < List.length x37) <|
        req ((x1 + (Int.toNat (w64 (x44 - 1)))) < List.length (List.set x37 (x1 + (Int.toNat x44)) x45)) <|
        Option.bind (f101_p10_1 F x1 x2 x3 x4 x44 x39 x37 x45 x46) fun x57 =>
        Option.bind (f101_p16_1 F x1 x2 x3 x4 x44 x39 x57) fun x68 =>
        f101_p1_8 F x1 x2 x3 x4 k x44 (w64 (x39 + 1)) x68
    else
      some (.c1 x37)
def f101 (F : Nat) (x1 x2 : Nat) (x3 x4 : Int) (x5 : List Int) : Option (Bool × (List Int)) :=
  Option.bind (f101_p1_8 F x1 x2 x3 x4 F (w64 (x3 + 1)) 0 x5) fun
  | .c0 x69 x70 =>
    some (x69, x70)
  | .c1 x71 =>
    some (false, x71)

def f104_p1 (F : Nat) (x1 x2 : Nat) (x3 x4 : Int) (x6 : List Int) (x7 x5 x8 : Int) : Nat → Int → Option Int
  | 0, _ => none
  | k + 1, x9 =>
    if (decide (x9 ≤ (w64 (x4 - 1)))) = true then
      req ((0 : Int) ≤ x9 ∧ (x9 : Int) < ((x2 : Nat) : Int)) <|
      Option.bind (((List.set (List.set x6 (x1 + (Int.toNat x3)) x7) (x1 + (Int.toNat x5)) x8))[(x1 + (Int.toNat x9))]?) fun x10 =>
      req ((0 : Int) ≤ x3 ∧ (x3 : Int) < ((x2 : Nat) : Int)) <|
      Option.bind (((List.set (List.set x6 (x1 + (Int.toNat x3)) x7) (x1 + (Int.toNat x5)) x8))[(x1 + (Int.toNat x3))]?) fun x11 =>
      Option.bind (f102 F x10 x11) fun x12 =>
      if x12 = true then
        f104_p1 F x1 x2 x3 x4 x6 x7 x5 x8 k (w64 (x9 + 1))
      else
        some x9
    else
      some x9
def f104_p5 (F : Nat) (x1 x2 : Nat) (x3 x13 : Int) (x6 : List Int) (x7 x5 x8 : Int) : Nat → Int → Option Int
  | 0, _ => none
  | k + 1, x14 =>
    if (decide (x13 ≤ x14)) = true then
      req ((0 : Int) ≤ x14 ∧ (x14 : Int) < ((x2 : Nat) : Int)) <|
      Option.bind (((List.set (List.set x6 (x1 + (Int.toNat x3)) x7) (x1 + (Int.toNat x5)) x8))[(x1 + (Int.toNat x14))]?) fun x15 =>
      req ((0 : Int) ≤ x3 ∧ (x3 : Int) < ((x2 : Nat) : Int)) <|
      Option.bind (((List.set (List.set x6 (x1 + (Int.toNat x3)) x7) (x1 + (Int.toNat x5)) x8))[(x1 + (Int.toNat x3))]?) fun x16 =>
      Option.bind (f102 F x15 x16) fun x17 =>
      if x17 = true then
        some x14
      else
        f104_p5 F x1 x2 x3 x13 x6 x7 x5 x8 k (w64 (x14 - 1))
    else
      some x14
def f104_p13_1 (F : Nat) (x1 x2 : Nat) (x3 x39 : Int) (x37 : List Int) : Nat → Int → Option Int
  | 0, _ => none
  | k + 1, x40 =>
    if (decide (x40 ≤ x39)) = true then
      req ((0 : Int) ≤ x40 ∧ (x40 : Int) < ((x2 : Nat) : Int)) <|
      Option.bind ((x37)[(x1 + (Int.toNat x40))]?) fun x41 =>
      req ((0 : Int) ≤ x3 ∧ (x3 : Int) < ((x2 : Nat) : Int)) <|
      Option.bind ((x37)[(x1 + (Int.toNat x3))]?) fun x42 =>
      Option.bind (f102 F x41 x42) fun x43 =>
      if x43 = true then
        f104_p13_1 F x1 x2 x3 x39 x37 k (w64 (x40 + 1))
      else
        some x40
    else
      some x40
def f104_p17_1 (F : Nat) (x1 x2 : Nat) (x3 x44 : Int) (x37 : List Int) : Nat → Int → Option Int
  | 0, _ => none
  | k + 1, x45 =>
    if (decide (x44 ≤ x45)) = true then
      req ((0 : Int) ≤ x45 ∧ (x45 : Int) < ((x2 : Nat) : Int)) <|
      Option.bind ((x37)[(x1 + (Int.toNat x45))]?) fun x46 =>
      req ((0 : Int) ≤ x3 ∧ (x3 : Int) < ((x2 : Nat) : Int)) <|
      Option.bind ((x37)[(x1 + (Int.toNat x3))]?) fun x47 =>
      Option.bind (f102 F x46 x47) fun x48 =>
      if x48 = true then
        some x45
      else
        f104_p17_1 F x1 x2 x3 x44 x37 k (w64 (x45 - 1))
    else
      some x45
def f104_p10 (F : Nat) (x1 x2 : Nat) (x3 : Int) : Nat → Int → Int → (List Int) → Option (Int × (List Int))
  | 0, _, _, _ => none
  | k + 1, x38, x39, x37 =>
    Option.bind (f104_p13_1 F x1 x2 x3 x39 x37 F x38) fun x44 =>
    Option.bind (f104_p17_1 F x1 x2 x3 x44 x37 F x39) fun x49 =>
    if (decide (x44 > x49)) = true then
      some (x49, x37)
    else
      req ((0 : Int) ≤ x49 ∧ (x49 : Int) < ((x2 : Nat) : Int)) <|
      Option.bind ((x37)[(x1 + (Int.toNat x49))]?) fun x50 =>
      req ((0 : Int) ≤ x44 ∧ (x44 : Int) < ((x2 : Nat) : Int)) <|
      Option.bind ((x37)[(x1 + (Int.toNat x44))]?) fun x51 =>
      req ((x1 + (Int.toNat x44)) < List.length x37) <|
      req ((x1 + (Int.toNat x49)) < List.length (List.set x37 (x1 + (Int.toNat x44)) x50)) <|
      f104_p10 F x1 x2 x3 k (w64 (x44 + 1)) (w64 (x49 - 1)) (List.set (List.set x37 (x1 + (Int.toNat x44)) x50) (x1 + (Int.toNat x49)) x51)
def f104 (F : Nat) (x1 x2 : Nat) (x3 x4 x5 : Int) (x6 : List Int) : Option (Int × Bool × (List Int)) :=
  req ((0 : Int) ≤ x5 ∧ (x5 : Int) < ((x2 : Nat) : Int)) <|
  Option.bind ((x6)[(x1 + (Int.toNat x5))]?) fun x7 =>
  req ((0 : Int) ≤ x3 ∧ (x3 : Int) < ((x2 : Nat) : Int)) <|
  Option.bind ((x6)[(x1 + (Int.toNat x3))]?) fun x8 =>
  req ((x1 + (Int.toNat x3)) < List.length x6) <|
  req ((x1 + (Int.toNat x5)) < List.length (List.set x6 (x1 + (Int.toNat x3)) x7)) <|
  Option.bind (f104_p1 F x1 x2 x3 x4 x6 x7 x5 x8 F (w64 (x3 + 1))) fun x13 =>
  Option.bind (f104_p5 F x1 x2 x3 x13 x6 x7 x5 x8 F (w64 (x4 - 1))) fun x18 =>
  if (decide (x13 > x18)) = true then
    Option.bind (((List.set (List.set x6 (x1 + (Int.toNat x3)) x7) (x1 + (Int.toNat x5)) x8))[(x1 + (Int.toNat x3))]?) fun x19 =>
    req ((0 : Int) ≤ x18 ∧ (x18 : Int) < ((x2 : Nat) : Int)) <|
    Option.bind (((List.set (List.set x6 (x1 + (Int.toNat x3)) x7) (x1 + (Int.toNat x5)) x8))[(x1 + (Int.toNat x18))]?) fun x20 =>
    req ((x1 + (Int.toNat x18)) < List.length (List.set (List.set x6 (x1 + (Int.toNat x3)) x7) (x1 + (Int.toNat x5)) x8)) <|
    req ((x1 + (Int.toNat x3)) < List.length (List.set (List.set (List.set x6 (x1 + (Int.toNat x3)) x7) (x1 + (Int.toNat x5)) x8) (x1 + (Int.toNat x18)) x19)) <|
    some (x18, true, (List.set (List.set (List.set (List.set x6 (x1 + (Int.toNat x3)) x7) (x1 + (Int.toNat x5)) x8) (x1 + (Int.toNat x18)) x19) (x1 + (Int.toNat x3)) x20))
  else
    req ((0 : Int) ≤ x18 ∧ (x18 : Int) < ((x2 : Nat) : Int)) <|
    Option.bind (((List.set (List.set x6 (x1 + (Int.toNat x3)) x7) (x1 + (Int.toNat x5)) x8))[(x1 + (Int.toNat x18))]?) fun x21 =>
    req ((0 : Int) ≤ x13 ∧ (x13 : Int) < ((x2 : Nat) : Int)) <|
    Option.bind (((List.set (List.set x6 (x1 + (Int.toNat x3)) x7) (x1 + (Int.toNat x5)) x8))[(x1 + (Int.toNat x13))]?) fun x22 =>
    req ((x1 + (Int.toNat x13)) < List.length (List.set (List.set x6 (x1 + (Int.toNat x3)) x7) (x1 + (Int.toNat x5)) x8)) <|
    req ((x1 + (Int.toNat x18)) < List.length (List.set (List.set (List.set x6 (x1 + (Int.toNat x3)) x7) (x1 + (Int.toNat x5)) x8) (x1 + (Int.toNat x13)) x21)) <|
    Option.bind (f104_p10 F x1 x2 x3 F (w64 (x13 + 1)) (w64 (x18 - 1)) (List.set (List.set (List.set (List.set x6 (x1 + (Int.toNat x3)) x7) (x1 + (Int.toNat x5)) x8) (x1 + (Int.toNat x13)) x21) (x1 + (Int.toNat x18)) x22)) fun (x52, x53) =>
    Option.bind ((x53)[(x1 + (Int.toNat x3))]?) fun x54 =>
    req ((0 : Int) ≤ x52 ∧ (x52 : Int) < ((x2 : Nat) : Int)) <|
    Option.bind ((x53)[(x1 + (Int.toNat x52))]?) fun x55 =>
    req ((x1 + (Int.toNat x52)) < List.length x53) <|
    req ((x1 + (Int.toNat x3)) < List.length (List.set x53 (x1 + (Int.toNat x52)) x54)) <|
    some (x52, false, (List.set (List.set x53 (x1 + (Int.toNat x52)) x54) (x1 + (Int.toNat x3)) x55))

def f103_p4_1 (F : Nat) (x1 x2 : Nat) (x3 x25 : Int) (x23 : List Int) : Nat → Int → Option Int
  | 0, _ => none
  | k + 1, x26 =>
    if (decide (x26 ≤ x25)) = true then
      req ((0 : Int) ≤ x3 ∧ (x3 : Int) < ((x2 : Nat) : Int)) <|
      Option.bind ((x23)[(x1 + (Int.toNat x3))]?) fun x27 =>
      req ((0 : Int) ≤ x26 ∧ (x26 : Int) < ((x2 : Nat) : Int)) <|
      Option.bind ((x23)[(x1 + (Int.toNat x26))]?) fun x28 =>
      Option.bind (f102 F x27 x28) fun x29 =>
      if x29 = true then
        some x26
      else
        f103_p4_1 F x1 x2 x3 x25 x23 k (w64 (x26 + 1))
    else
      some x26
def f103_p8_1 (F : Nat) (x1 x2 : Nat) (x3 x30 : Int) (x23 : List Int) : Nat → Int → Option Int
  | 0, _ => none
  | k + 1, x31 =>
    if (decide (x30 ≤ x31)) = true then
      req ((0 : Int) ≤ x3 ∧ (x3 : Int) < ((x2 : Nat) : Int)) <|
      Option.bind ((x23)[(x1 + (Int.toNat x3))]?) fun x32 =>
      req ((0 : Int) ≤ x31 ∧ (x31 : Int) < ((x2 : Nat) : Int)) <|
      Option.bind ((x23)[(x1 + (Int.toNat x31))]?) fun x33 =>
      Option.bind (f102 F x32 x33) fun x34 =>
      if x34 = true then
        f103_p8_1 F x1 x2 x3 x30 x23 k (w64 (x31 - 1))
      else
        some x31
    else
      some x31
def f103_p1 (F : Nat) (x1 x2 : Nat) (x3 : Int) : Nat → Int → Int → (List Int) → Option (Int × (List Int))
  | 0, _, _, _ => none
  | k + 1, x24, x25, x23 =>
    Option.bind (f103_p4_1 F x1 x2 x3 x25 x23 F x24) fun x30 =>
    Option.bind (f103_p8_1 F x1 x2 x3 x30 x23 F x25) fun x35 =>
    if (decide (x30 > x35)) = true then
      some (x30, x23)
    else
      req ((0 : Int) ≤ x35 ∧ (x35 : Int) < ((x2 : Nat) : Int)) <|
      Option.bind ((x23)[(x1 + (Int.toNat x35))]?) fun x36 =>
      req ((0 : Int) ≤ x30 ∧ (x30 : Int) < ((x2 : Nat) : Int)) <|
      Option.bind ((x23)[(x1 + (Int.toNat x30))]?) fun x37 =>
      req ((x1 + (Int.toNat x30)) < List.length x23) <|
      req ((x1 + (Int.toNat x35)) < List.length (List.set x23 (x1 + (Int.toNat x30)) x36)) <|
      f103_p1 F x1 x2 x3 k (w64 (x30 + 1)) (w64 (x35 - 1)) (List.set (List.set x23 (x1 + (Int.toNat x30)) x36) (x1 + (Int.toNat x35)) x37)
def f103 (F : Nat) (x1 x2 : Nat) (x3 x4 x5 : Int) (x6 : List Int) : Option (Int × (List Int)) :=
  req ((0 : Int) ≤ x5 ∧ (x5 : Int) < ((x2 : Nat) : Int)) <|
  Option.bind ((x6)[(x1 + (Int.toNat x5))]?) fun x7 =>
  req ((0 : Int) ≤ x3 ∧ (x3 : Int) < ((x2 : Nat) : Int)) <|
  Option.bind ((x6)[(x1 + (Int.toNat x3))]?) fun x8 =>
  req ((x1 + (Int.toNat x3)) < List.length x6) <|
  req ((x1 + (Int.toNat x5)) < List.length (List.set x6 (x1 + (Int.toNat x3)) x7)) <|
  Option.bind (f103_p1 F x1 x2 x3 F (w64 (x3 + 1)) (w64 (x4 - 1)) (List.set (List.set x6 (x1 + (Int.toNat x3)) x7) (x1 + (Int.toNat x5)) x8)) fun (x38, x39) =>
  some (x38, x39)

def f91_p5_1 (F : Nat) (x1 x2 : Nat) (x40 x41 x42 : Int) (x43 x44 : Bool) (x39 : List Int) : Option (Int × (List Int)) :=
  if x43 = true then
    some (x42, x39)
  else
    Option.bind (f98 F x1 x2 x40 x41 x39) fun x47 =>
    some ((w64 (x42 - 1)), x47)
def f91_p6_1 (F : Nat) (x1 x2 : Nat) (x40 x41 x48 : Int) (x43 x44 : Bool) (x50 x51 : Int) (x49 : List Int) : Option (Int × Int × (List Int)) :=
  if (x51 == 2) = true then
    Option.bind (f100 F x1 x2 x40 x41 x49) fun x52 =>
    some ((w64 ((w64 (x41 - 1)) - (w64 (x50 - x40)))), 1, x52)
  else
    some (x50, x51, x49)
inductive f91_p7_1_R where
  | c0 (a0 : List Int)
  | c1 (a0 : List Int)
def f91_p7_1 (F : Nat) (x1 x2 : Nat) (x40 x41 x48 : Int) (x43 x44 : Bool) (x53 x54 : Int) (x55 : List Int) : Option f91_p7_1_R :=
  if (x54 == 1) = true then
    Option.bind (f101 F x1 x2 x40 x41 x55) fun (x56, x57) =>
    if x56 = true then
      some (.c0 x57)
    else
      some (.c1 x57)
  else
    some (.c1 x55)
def f91_p10_1 (F : Nat) (rec : Nat → Nat → Int → Int → Int → (List Int) → Option (List Int)) (x1 x2 : Nat) (x40 x41 x48 : Int) (x64 : Bool) (x63 : Int) (x65 : List Int) : Option (Int × Int × Bool × (List Int)) :=
  if (decide ((w64 (x63 - x40)) < (w64 (x41 - x63)))) = true then
    Option.bind (rec x1 x2 x40 x63 x48 x65) fun x66 =>
    some ((w64 (x63 + 1)), x41, (decide ((w64 (x63 - x40)) ≥ (w64 (Int.tdiv (w64 (x41 - x40)) 8)))), x66)
  else
    Option.bind (rec x1 x2 (w64 (x63 + 1)) x41 x48 x65) fun x67 =>
    some (x40, x63, (decide ((w64 (x41 - x63)) ≥ (w64 (Int.tdiv (w64 (x41 - x40)) 8)))), x67)
def f91_p10_2 (F : Nat) (rec : Nat → Nat → Int → Int → Int → (List Int) → Option (List Int)) (x1 x2 : Nat) (x40 x41 x48 : Int) (x75 : Bool) (x74 : Int) (x76 : List Int) : Option (Int × Int × Bool × (List Int)) :=
  if (decide ((w64 (x74 - x40)) < (w64 (x41 - x74)))) = true then
    Option.bind (rec x1 x2 x40 x74 x48 x76) fun x77 =>
    some ((w64 (x74 + 1)), x41, (decide ((w64 (x74 - x40)) ≥ (w64 (Int.tdiv (w64 (x41 - x40)) 8)))), x77)
  else
    Option.bind (rec x1 x2 (w64 (x74 + 1)) x41 x48 x76) fun x78 =>
    some (x40, x74, (decide ((w64 (x41 - x74)) ≥ (w64 (Int.tdiv (w64 (x41 - x40)) 8)))), x78)
def f91_p10_3 (F : Nat) (rec : Nat → Nat → Int → Int → Int → (List Int) → Option (List Int)) (x1 x2 : Nat) (x40 x41 x48 : Int) (x87 : Bool) (x86 : Int) (x88 : List Int) : Option (Int × Int × Bool × (List Int)) :=
  if (decide ((w64 (x86 - x40)) < (w64 (x41 - x86)))) = true then
    Option.bind (rec x1 x2 x40 x86 x48 x88) fun x89 =>
    some ((w64 (x86 + 1)), x41, (decide ((w64 (x86 - x40)) ≥ (w64 (Int.tdiv (w64 (x41 - x40)) 8)))), x89)
  else
    Option.bind (rec x1 x2 (w64 (x86 + 1)) x41 x48 x88) fun x90 =>
    some (x40, x86, (decide ((w64 (x41 - x86)) ≥ (w64 (Int.tdiv (w64 (x41 - x40)) 8)))), x90)
def f91_p10_4 (F : Nat) (rec : Nat → Nat → Int → Int → Int → (List Int) → Option (List Int)) (x1 x2 : Nat) (x40 x41 x48 : Int) (x98 : Bool) (x97 : Int) (x99 : List Int) : Option (Int × Int × Bool × (List Int)) :=
  if (decide ((w64 (x97 - x40)) < (w64 (x41 - x97)))) = true then
    Option.bind (rec x1 x2 x40 x97 x48 x99) fun x100 =>
    some ((w64 (x97 + 1)), x41, (decide ((w64 (x97 - x40)) ≥ (w64 (Int.tdiv (w64 (x41 - x40)) 8)))), x100)
  else
    Option.bind (rec x1 x2 (w64 (x97 + 1)) x41 x48 x99) fun x101 =>
    some (x40, x97, (decide ((w64 (x41 - x97)) ≥ (w64 (Int.tdiv (w64 (x41 - x40)) 8)))), x101)
def f91_p10_5 (F : Nat) (rec : Nat → Nat → Int → Int → Int → (List Int) → Option (List Int)) (x1 x2 : Nat) (x40 x41 x48 : Int) (x110 : Bool) (x109 : Int) (x111 : List Int) : Option (Int × Int × Bool × (List Int)) :=
  if (decide ((w64 (x109 - x40)) < (w64 (x41 - x109)))) = true then
    Option.bind (rec x1 x2 x40 x109 x48 x111) fun x112 =>
    some ((w64 (x109 + 1)), x41, (decide ((w64 (x109 - x40)) ≥ (w64 (Int.tdiv (w64 (x41 - x40)) 8)))), x112)
  else
    Option.bind (rec x1 x2 (w64 (x109 + 1)) x41 x48 x111) fun x113 =>
    some (x40, x109, (decide ((w64 (x41 - x109)) ≥ (w64 (Int.tdiv (w64 (x41 - x40)) 8)))), x113)
def f91_p10_6 (F : Nat) (rec : Nat → Nat → Int → Int → Int → (List Int) → Option (List Int)) (x1 x2 : Nat) (x40 x41 x48 : Int) (x121 : Bool) (x120 : Int) (x122 : List Int) : Option (Int × Int × Bool × (List Int)) :=
  if (decide ((w64 (x120 - x40)) < (w64 (x41 - x120)))) = true then
    Option.bind (rec x1 x2 x40 x120 x48 x122) fun x123 =>
    some ((w64 (x120 + 1)), x41, (decide ((w64 (x120 - x40)) ≥ (w64 (Int.tdiv (w64 (x41 - x40)) 8)))), x123)
  else
    Option.bind (rec x1 x2 (w64 (x120 + 1)) x41 x48 x122) fun x124 =>
    some (x40, x120, (decide ((w64 (x41 - x120)) ≥ (w64 (Int.tdiv (w64 (x41 - x40)) 8)))), x124)
def f91_p1_7 (F : Nat) (rec : Nat → Nat → Int → Int → Int → (List Int) → Option (List Int)) (x1 x2 : Nat) : Nat → Int → Int → Int → Bool → Bool → (List Int) → Option (List Int)
  | 0, _, _, _, _, _, _ => none
  | k + 1, x40, x41, x42, x43, x44, x39 =>
    if (decide ((w64 (x41 - x40)) ≤ 12)) = true then
      Option.bind (f96 F x1 x2 x40 x41 x39) fun x45 =>
      some x45
    else
    if (x42 == 0) = true then
      Option.bind (f97 F x1 x2 x40 x41 x39) fun x46 =>
      some x46
    else
      Option.bind (f91_p5_1 F x1 x2 x40 x41 x42 x43 x44 x39) fun (x48, x49) =>
      Option.bind (f99 F x1 x2 x40 x41 x49) fun (x50, x51) =>
      Option.bind (f91_p6_1 F x1 x2 x40 x41 x48 x43 x44 x50 x51 x49) fun (x53, x54, x55) =>
      if x43 = true then
        if x44 = true then
          Option.bind (f91_p7_1 F x1 x2 x40 x41 x48 x43 x44 x53 x54 x55) fun
          | .c0 x58 =>
            some x58
          | .c1 x59 =>
            if (decide (x40 > 0)) = true then
              req ((0 : Int) ≤ (w64 (x40 - 1)) ∧ ((w64 (x40 - 1)) : Int) < ((x2 : Nat) : Int)) <|
              Option.bind ((x59)[(x1 + (Int.toNat (w64 (x40 - 1))))]?) fun x60 =>
              req ((0 : Int) ≤ x53 ∧ (x53 : Int) < ((x2 : Nat) : Int)) <|
              Option.bind ((x59)[(x1 + (Int.toNat x53))]?) fun x61 =>
              Option.bind (f102 F x60 x61) fun x62 =>
              if x62 = true then
                Option.bind (f104 F x1 x2 x40 x41 x53 x59) fun (x63, x64, x65) =>
                Option.bind (f91_p10_1 F rec x1 x2 x40 x41 x48 x64 x63 x65) fun (x68, x69, x70, x71) =>
                f91_p1_7 F rec x1 x2 k x68 x69 x48 x70 x64 x71
              else
                Option.bind (f103 F x1 x2 x40 x41 x53 x59) fun (x72, x73) =>
                f91_p1_7 F rec x1 x2 k x72 x41 x48 x43 x44 x73
            else
              Option.bind (f104 F x1 x2 x40 x41 x53 x59) fun (x74, x75, x76) =>
              Option.bind (f91_p10_2 F rec x1 x2 x40 x41 x48 x75 x74 x76) fun (x79, x80, x81, x82) =>
              f91_p1_7 F rec x1 x2 k x79 x80 x48 x81 x75 x82
        else
        if (decide (x40 > 0)) = true then
          req ((0 : Int) ≤ (w64 (x40 - 1)) ∧ ((w64 (x40 - 1)) : Int) < ((x2 : Nat) : Int)) <|
          Option.bind ((x55)[(x1 + (Int.toNat (w64 (x40 - 1))))]?) fun x83 =>
          req ((0 : Int) ≤ x53 ∧ (x53 : Int) < ((x2 : Nat) : Int)) <|
          Option.bind ((x55)[(x1 + (Int.toNat x53))]?) fun x84 =>
          Option.bind (f102 F x83 x84) fun x85 =>
          if x85 = true then
            Option.bind (f104 F x1 x2 x40 x41 x53 x55) fun (x86, x87, x88) =>
            Option.bind (f91_p10_3 F rec x1 x2 x40 x41 x48 x87 x86 x88) fun (x91, x92, x93, x94) =>
            f91_p1_7 F rec x1 x2 k x91 x92 x48 x93 x87 x94
          else
            Option.bind (f103 F x1 x2 x40 x41 x53 x55) fun (x95, x96) =>
            f91_p1_7 F rec x1 x2 k x95 x41 x48 x43 x44 x96
        else
          Option.bind (f104 F x1 x2 x40 x41 x53 x55) fun (x97, x98, x99) =>
          Option.bind (f91_p10_4 F rec x1 x2 x40 x41 x48 x98 x97 x99) fun (x102, x103, x104, x105) =>
          f91_p1_7 F rec x1 x2 k x102 x103 x48 x104 x98 x105
      else
      if (decide (x40 > 0)) = true then
        req ((0 : Int) ≤ (w64 (x40 - 1)) ∧ ((w64 (x40 - 1)) : Int) < ((x2 : Nat) : Int)) <|
        Option.bind ((x55)[(x1 + (Int.toNat (w64 (x40 - 1))))]?) fun x106 =>
        req ((0 : Int) ≤ x53 ∧ (x53 : Int) < ((x2 : Nat) : Int)) <|
        Option.bind ((x55)[(x1 + (Int.toNat x53))]?) fun x107 =>
        Option.bind (f102 F x106 x107) fun x108 =>
        if x108 = true then
          Option.bind (f104 F x1 x2 x40 x41 x53 x55) fun (x109, x110, x111) =>
          Option.bind (f91_p10_5 F rec x1 x2 x40 x41 x48 x110 x109 x111) fun (x114, x115, x116, x117) =>
          f91_p1_7 F rec x1 x2 k x114 x115 x48 x116 x110 x117
        else
          Option.bind (f103 F x1 x2 x40 x41 x53 x55) fun (x118, x119) =>
          f91_p1_7 F rec x1 x2 k x118 x41 x48 x43 x44 x119
      else
        Option.bind (f104 F x1 x2 x40 x41 x53 x55) fun (x120, x121, x122) =>
        Option.bind (f91_p10_6 F rec x1 x2 x40 x41 x48 x121 x120 x122) fun (x125, x126, x127, x128) =>
        f91_p1_7 F rec x1 x2 k x125 x126 x48 x127 x121 x128
def f91_b (F : Nat) (rec : Nat → Nat → Int → Int → Int → (List Int) → Option (List Int)) (x1 x2 : Nat) (x3 x4 x5 : Int) (x6 : List Int) : Option (List Int) :=
  Option.bind (f91_p1_7 F rec x1 x2 F x3 x4 x5 true true x6) fun x129 =>
  some x129
def f91 (F : Nat) : Nat → Nat → Nat → Int → Int → Int → (List Int) → Option (List Int)
  | 0 => fun _ _ _ _ _ _ => none
  | k + 1 => f91_b F (f91 F k)

def f81 (F : Nat) (x1 : List Int) : Option (List Int) :=
  Option.bind (f92 F (IntKind.wrap .u64 ((((List.length x1) : Nat) : Int)))) fun x2 =>
  Option.bind (f91 F F 0 (List.length x1) 0 (((List.length x1) : Nat) : Int) x2 x1) fun x3 =>
  some x3

def f82_p1 (F : Nat) (x1 x2 : Nat) : Nat → Int → Int → (List Int) → Option (List Int)
  | 0, _, _, _ => none
  | k + 1, x9, x10, x8 =>
    if (decide (x9 < x10)) = true then
      req ((0 : Int) ≤ x10 ∧ (x10 : Int) < ((x2 : Nat) : Int)) <|
      Option.bind ((x8)[(x1 + (Int.toNat x10))]?) fun x11 =>
      req ((0 : Int) ≤ x9 ∧ (x9 : Int) < ((x2 : Nat) : Int)) <|
      Option.bind ((x8)[(x1 + (Int.toNat x9))]?) fun x12 =>
      req ((x1 + (Int.toNat x9)) < List.length x8) <|
      req ((x1 + (Int.toNat x10)) < List.length (List.set x8 (x1 + (Int.toNat x9)) x11)) <|
      f82_p1 F x1 x2 k (w64 (x9 + 1)) (w64 (x10 - 1)) (List.set (List.set x8 (x1 + (Int.toNat x9)) x11) (x1 + (Int.toNat x10)) x12)
    else
      some x8
def f82 (F : Nat) (x1 x2 : Nat) (x3 : List Int) : Option (List Int) :=
  Option.bind (f82_p1 F x1 x2 F 0 (w64 (((x2 : Nat) : Int) - 1)) x3) fun x13 =>
  some x13

def f53_p1 (F : Nat) (x1 : List Int) : Nat → Int → Int → (List Int) → Option (List Int)
  | 0, _, _, _ => none
  | k + 1, x7, x8, x6 =>
    if (decide (x8 < ((List.length x1 : Nat) : Int))) = true then
      Option.bind (at? x1 x8) fun x9 =>
      if (decide ((w64 (1 + (Int.tmod (w64 (x9)) 9))) > x7)) = true then
        some x6
      else
        req (List.length x6 + List.length ([(w64 (1 + (Int.tmod (w64 (x9)) 9)))] : List Int) ≤ 1099511627776) <|
        f53_p1 F x1 k (w64 (x7 - (w64 (1 + (Int.tmod (w64 (x9)) 9))))) (w64 (x8 + 1)) (x6 ++ ([(w64 (1 + (Int.tmod (w64 (x9)) 9)))] : List Int))
    else
      some x6
def f53 (F : Nat) (x1 : List Int) (x2 : Int) : Option (List Int) :=
  Option.bind (f53_p1 F x1 F x2 0 ([] : List Int)) fun x10 =>
  Option.bind (f81 F x10) fun x11 =>
  Option.bind (f82 F 0 (List.length x10) x11) fun x12 =>
  req ((0 + (List.length x10)) ≤ List.length x12) <|
  some (List.drop 0 (List.take (0 + (List.length x10)) x12))

def f57 (F : Nat) (x1 x2 x3 : Int) : Option Bool :=
  if (decide (x1 ≥ x2)) = true then
    some (decide (x1 ≤ x3))
  else
    some false

inductive f34_p1_R where
  | c0 (a0 : Int)
  | c1 (a0 : Int)
def f34_p1 (F : Nat) (x1 : List Int) : Nat → Int → Int → Int → Option f34_p1_R
  | 0, _, _, _ => none
  | k + 1, x2, x3, x4 =>
    if (decide (x4 < ((List.length x1 : Nat) : Int))) = true then
      Option.bind (at? x1 x4) fun x5 =>
      Option.bind (f57 F x5 1 30) fun x6 =>
      if x6 = true then
        if (decide (x5 > x2)) = true then
          some (.c0 7)
        else
          f34_p1 F x1 k x5 (if 31 < (w64 (x3 + x5)) then 31 else (w64 (x3 + x5))) (w64 (x4 + 1))
      else
        some (.c0 1)
    else
      some (.c1 x3)
def f34 (F : Nat) (x1 : List Int) : Option Int :=
  Option.bind (f34_p1 F x1 F 30 0 0) fun
  | .c0 x7 =>
    some x7
  | .c1 x8 =>
    if (decide (x8 > 30)) = true then
      some 3
    else
      some 0

def f61_p4_1 (F : Nat) (x1 x12 : List Int) (x13 : Int) : Option Int :=
  if (decide (x13 < ((List.length x1 : Nat) : Int))) = true then
    Option.bind (at? x1 x13) fun x14 =>
    some x14
  else
    some 0
def f61_p6_1 (F : Nat) (x1 : List Int) (x13 x16 x15 : Int) : Nat → Int → (List Int) → Option (List Int)
  | 0, _, _ => none
  | k + 1, x18, x17 =>
    if (decide (x18 < (w64 (x16 - x15)))) = true then
      req (List.length x17 + List.length ([x13] : List Int) ≤ 1099511627776) <|
      f61_p6_1 F x1 x13 x16 x15 k (w64 (x18 + 1)) (x17 ++ ([x13] : List Int))
    else
      some x17
def f61_p1 (F : Nat) (x1 : List Int) : Nat → Int → (List Int) → Option (List Int)
  | 0, _, _ => none
  | k + 1, x13, x12 =>
    if (decide (x13 > 0)) = true then
      Option.bind (f61_p4_1 F x1 x12 x13) fun x15 =>
      Option.bind (at? x1 (w64 (x13 - 1))) fun x16 =>
      Option.bind (f61_p6_1 F x1 x13 x16 x15 F 0 x12) fun x19 =>
      f61_p1 F x1 k (w64 (x13 - 1)) x19
    else
      some x12
def f61 (F : Nat) (x1 : List Int) : Option (List Int) :=
  Option.bind (f61_p1 F x1 F ((List.length x1 : Nat) : Int) ([] : List Int)) fun x20 =>
  some (List.drop 0 (List.take (0 + (List.length x20)) x20))

def f25 (F : Nat) (x1 : List Int) : Option ((List Int) × Int) :=
  Option.bind (f34 F x1) fun x2 =>
  if (x2 != 0) = true then
    some (([] : List Int), x2)
  else
    Option.bind (f61 F x1) fun x3 =>
    some (x3, 0)

def f54_p1 (F : Nat) (x1 : List Int) : Nat → Int → Int → Option Int
  | 0, _, _ => none
  | k + 1, x2, x3 =>
    if (decide (x3 < ((List.length x1 : Nat) : Int))) = true then
      Option.bind (at? x1 x3) fun x4 =>
      f54_p1 F x1 k (w64 (x2 + x4)) (w64 (x3 + 1))
    else
      some x2
def f54 (F : Nat) (x1 : List Int) : Option Int :=
  Option.bind (f54_p1 F x1 F 0 0) fun x5 =>
  some x5

inductive f31_p2_R where
  | c0
  | c1
def f31_p2 (F : Nat) (x1 x2 : List Int) : Nat → Int → Option f31_p2_R
  | 0, _ => none
  | k + 1, x3 =>
    if (decide (x3 < ((List.length x1 : Nat) : Int))) = true then
      Option.bind (at? x1 x3) fun x4 =>
      Option.bind (at? x2 x3) fun x5 =>
      if (x4 != x5) = true then
        some .c0
      else
        f31_p2 F x1 x2 k (w64 (x3 + 1))
    else
      some .c1
def f31 (F : Nat) (x1 x2 : List Int) : Option Bool :=
  if (((List.length x1 : Nat) : Int) != ((List.length x2 : Nat) : Int)) = true then
    some false
  else
    Option.bind (f31_p2 F x1 x2 F 0) fun
    | .c0 =>
      some false
    | .c1 =>
      some true

def f84 (F : Nat) (rec : Int → Int → (List (Option Int)) → Option (Int × (List (Option Int)))) (x1 : List (Option Int)) (x2 x3 : Int) : Option (Int × (List (Option Int))) :=
  Option.bind (rec x2 (w64 (x3 - 1)) x1) fun (x4, x5) =>
  Option.bind (rec (w64 (x2 - x3)) x3 x5) fun (x6, x7) =>
  some ((w64 (x4 + x6)), x7)
def f83 (F : Nat) (rec : Int → Int → (List (Option Int)) → Option (Int × (List (Option Int)))) (x1 x2 : Int) (x3 : List (Option Int)) (x4 x5 : Int) : Option (Int × (List (Option Int))) :=
  req ((0 : Int) ≤ x1 ∧ (x1 : Int) < ((31 : Nat) : Int)) <|
  req ((0 : Int) ≤ (if x1 < x2 then x1 else x2) ∧ ((if x1 < x2 then x1 else x2) : Int) < ((31 : Nat) : Int)) <|
  Option.bind ((x3)[((0 + ((Int.toNat x1) * 31)) + ((Int.toNat (if x1 < x2 then x1 else x2)) * 1))]?) fun x6 =>
  match x6 with
  | none =>
    Option.bind (f84 F rec x3 x4 x5) fun (x8, x9) =>
    req (((0 + ((Int.toNat x1) * 31)) + ((Int.toNat (if x1 < x2 then x1 else x2)) * 1)) < 961) <|
    Option.bind (((List.set x9 ((0 + ((Int.toNat x1) * 31)) + ((Int.toNat (if x1 < x2 then x1 else x2)) * 1)) (some x8)))[((0 + ((Int.toNat x1) * 31)) + ((Int.toNat (if x1 < x2 then x1 else x2)) * 1))]?) fun x10 =>
    match x10 with
    | none =>
      none
    | some x11 =>
      some (x11, (List.set x9 ((0 + ((Int.toNat x1) * 31)) + ((Int.toNat (if x1 < x2 then x1 else x2)) * 1)) (some x8)))
  | some x7 =>
    some (x7, x3)
def f58_b (F : Nat) (rec : Int → Int → (List (Option Int)) → Option (Int × (List (Option Int)))) (x1 x2 : Int) (x3 : List (Option Int)) : Option (Int × (List (Option Int))) :=
  if (x1 == 0) = true then
    some (1, x3)
  else
  if ((if x1 < x2 then x1 else x2) == 0) = true then
    some (0, x3)
  else
    Option.bind (f83 F rec x1 (if x1 < x2 then x1 else x2) x3 x1 (if x1 < x2 then x1 else x2)) fun (x4, x5) =>
    some (x4, x5)
def f58 (F : Nat) : Nat → Int → Int → (List (Option Int)) → Option (Int × (List (Option Int)))
  | 0 => fun _ _ _ => none
  | k + 1 => f58_b F (f58 F k)

def f17 (F : Nat) (x1 x2 : Int) : Option (Int × Int) :=
  Option.bind (f57 F x1 0 30) fun x3 =>
  if x3 = true then
    Option.bind (f57 F x2 0 30) fun x4 =>
    if x4 = true then
      Option.bind (f58 F F x1 x2 (List.replicate 961 none)) fun (x5, x6) =>
      some (x5, 0)
    else
      some (0, 1)
  else
    some (0, 1)

def f52 (F : Nat) (x1 : List Int) : Option (List Int) :=
  some x1

def f15 (F : Nat) (x1 : Int) : Option (Int × Int) :=
  Option.bind (f17 F x1 (if 0 > x1 then 0 else x1)) fun (x2, x3) =>
  some (x2, x3)

def f20_p6_1 (F : Nat) (x1 x13 : Int) : Nat → Int → (List Int) → Option (List Int)
  | 0, _, _ => none
  | k + 1, x18, x17 =>
    if (decide (x18 ≥ x13)) = true then
      req ((0 : Int) ≤ x18 ∧ (x18 : Int) < (((Int.toNat (w64 (x1 + 1))) : Nat) : Int)) <|
      Option.bind ((x17)[(0 + (Int.toNat x18))]?) fun x19 =>
      req ((0 : Int) ≤ (w64 (x18 - x13)) ∧ ((w64 (x18 - x13)) : Int) < (((Int.toNat (w64 (x1 + 1))) : Nat) : Int)) <|
      Option.bind ((x17)[(0 + (Int.toNat (w64 (x18 - x13))))]?) fun x20 =>
      req ((0 + (Int.toNat x18)) < List.length x17) <|
      f20_p6_1 F x1 x13 k (w64 (x18 - 1)) (List.set x17 (0 + (Int.toNat x18)) (w64 (x19 + x20)))
    else
      some x17
def f20_p2 (F : Nat) (x1 : Int) : Nat → Int → (List Int) → Option (List Int)
  | 0, _, _ => none
  | k + 1, x13, x12 =>
    if (decide (x13 ≤ x1)) = true then
      Option.bind (f20_p6_1 F x1 x13 F x1 x12) fun x21 =>
      f20_p2 F x1 k (w64 (x13 + 1)) x21
    else
      some x12
def f20 (F : Nat) (x1 : Int) : Option (Int × Int) :=
  Option.bind (f57 F x1 0 30) fun x2 =>
  if x2 = true then
    req ((0 : Int) ≤ (w64 (x1 + 1)) ∧ ((w64 (x1 + 1)) : Int) ≤ (w64 (x1 + 1)) ∧ ((w64 (x1 + 1)) : Int) ≤ 1099511627776) <|
    req ((0 : Int) ≤ 0 ∧ (0 : Int) < (((Int.toNat (w64 (x1 + 1))) : Nat) : Int)) <|
    req (0 < List.length (List.replicate (Int.toNat (w64 (x1 + 1))) (0 : Int))) <|
    Option.bind (f20_p2 F x1 F 1 (List.set (List.replicate (Int.toNat (w64 (x1 + 1))) (0 : Int)) 0 1)) fun x22 =>
    req ((0 : Int) ≤ x1 ∧ (x1 : Int) < (((Int.toNat (w64 (x1 + 1))) : Nat) : Int)) <|
    Option.bind ((x22)[(0 + (Int.toNat x1))]?) fun x23 =>
    some (x23, 0)
  else
    some (0, 1)

inductive f22_p2_R where
  | c0 (a0 : Int)
  | c1
def f22_p2 (F : Nat) (x1 : Int) : Nat → Int → Option f22_p2_R
  | 0, _ => none
  | k + 1, x3 =>
    if (decide (x3 < 30)) = true then
      if (x1 == (w64 (Int.tdiv (w64 (x3 * (w64 ((w64 (3 * x3)) - 1)))) 2))) = true then
        some (.c0 (w64 (1 - (w64 (2 * (Int.tmod x3 2))))))
      else
      if (x1 == (w64 ((w64 (Int.tdiv (w64 (x3 * (w64 ((w64 (3 * x3)) - 1)))) 2)) + x3))) = true then
        some (.c0 (w64 (1 - (w64 (2 * (Int.tmod x3 2))))))
      else
        f22_p2 F x1 k (w64 (x3 + 1))
    else
      some .c1
def f22 (F : Nat) (x1 : Int) : Option (Int × Int) :=
  Option.bind (f57 F x1 0 30) fun x2 =>
  if x2 = true then
    Option.bind (f22_p2 F x1 F 0) fun
    | .c0 x4 =>
      some (x4, 0)
    | .c1 =>
      some (0, 0)
  else
    some (0, 1)

def f72_p1 (F : Nat) (x1 : List Int) : Nat → Int → Int → Option Int
  | 0, _, _ => none
  | k + 1, x2, x3 =>
    if (decide (x3 < ((List.length x1 : Nat) : Int))) = true then
      Option.bind (at? x1 x3) fun x4 =>
      f72_p1 F x1 k (w64 (x2 + x4)) (w64 (x3 + 1))
    else
      some x2
def f72 (F : Nat) (x1 : List Int) : Option Int :=
  Option.bind (f72_p1 F x1 F 0 0) fun x5 =>
  some x5

def f84_1 (F : Nat) (rec : Int → Int → (List (Option Int)) → Option (Int × (List (Option Int)))) (x1 : List (Option Int)) (x2 x3 : Int) : Option (Int × (List (Option Int))) :=
  Option.bind (rec x2 (w64 (x3 - 1)) x1) fun (x4, x5) =>
  Option.bind (rec (w64 (x2 - x3)) x3 x5) fun (x6, x7) =>
  some ((w64 (x4 + x6)), x7)
def f83_1 (F : Nat) (rec : Int → Int → (List (Option Int)) → Option (Int × (List (Option Int)))) (x1 x2 : Int) (x3 : List (Option Int)) (x4 x5 : Int) : Option (Int × (List (Option Int))) :=
  req ((0 : Int) ≤ x1 ∧ (x1 : Int) < ((31 : Nat) : Int)) <|
  req ((0 : Int) ≤ (if x1 < x2 then x1 else x2) ∧ ((if x1 < x2 then x1 else x2) : Int) < ((31 : Nat) : Int)) <|
  Option.bind ((x3)[((0 + ((Int.toNat x1) * 31)) + ((Int.toNat (if x1 < x2 then x1 else x2)) * 1))]?) fun x6 =>
  match x6 with
  | none =>
    Option.bind (f84_1 F rec x3 x4 x5) fun (x8, x9) =>
    req (((0 + ((Int.toNat x1) * 31)) + ((Int.toNat (if x1 < x2 then x1 else x2)) * 1)) < 961) <|
    Option.bind (((List.set x9 ((0 + ((Int.toNat x1) * 31)) + ((Int.toNat (if x1 < x2 then x1 else x2)) * 1)) (some x8)))[((0 + ((Int.toNat x1) * 31)) + ((Int.toNat (if x1 < x2 then x1 else x2)) * 1))]?) fun x10 =>
    match x10 with
    | none =>
      none
    | some x11 =>
      some (x11, (List.set x9 ((0 + ((Int.toNat x1) * 31)) + ((Int.toNat (if x1 < x2 then x1 else x2)) * 1)) (some x8)))
  | some x7 =>
    some (x7, x3)
def f58_1_b (F : Nat) (rec : Int → Int → (List (Option Int)) → Option (Int × (List (Option Int)))) (x1 x2 : Int) (x3 : List (Option Int)) : Option (Int × (List (Option Int))) :=
  if (x1 == 0) = true then
    some (1, x3)
  else
  if ((if x1 < x2 then x1 else x2) == 0) = true then
    some (0, x3)
  else
    Option.bind (f83_1 F rec x1 (if x1 < x2 then x1 else x2) x3 x1 (if x1 < x2 then x1 else x2)) fun (x4, x5) =>
    some (x4, x5)
def f58_1 (F : Nat) : Nat → Int → Int → (List (Option Int)) → Option (Int × (List (Option Int)))
  | 0 => fun _ _ _ => none
  | k + 1 => f58_1_b F (f58_1 F k)

def f36_p2 (F : Nat) (x1 : List Int) : Nat → Int → Int → Int → (List (Option Int)) → Option Int
  | 0, _, _, _, _ => none
  | k + 1, x10, x11, x12, x13 =>
    if (decide (x12 < ((List.length x1 : Nat) : Int))) = true then
      Option.bind (at? x1 x12) fun x14 =>
      Option.bind (f58_1 F F x10 (w64 (x14 - 1)) x13) fun (x15, x16) =>
      f36_p2 F x1 k (w64 (x10 - x14)) (w64 (x11 + x15)) (w64 (x12 + 1)) x16
    else
      some x11
def f36 (F : Nat) (x1 : List Int) : Option (Int × Int) :=
  Option.bind (f34 F x1) fun x2 =>
  if (x2 != 0) = true then
    some (0, x2)
  else
    Option.bind (f72 F x1) fun x3 =>
    Option.bind (f36_p2 F x1 F x3 0 0 (List.replicate 961 none)) fun x17 =>
    some (x17, 0)

def f84_2 (F : Nat) (rec : Int → Int → (List (Option Int)) → Option (Int × (List (Option Int)))) (x1 : List (Option Int)) (x2 x3 : Int) : Option (Int × (List (Option Int))) :=
  Option.bind (rec x2 (w64 (x3 - 1)) x1) fun (x4, x5) =>
  Option.bind (rec (w64 (x2 - x3)) x3 x5) fun (x6, x7) =>
  some ((w64 (x4 + x6)), x7)
def f83_2 (F : Nat) (rec : Int → Int → (List (Option Int)) → Option (Int × (List (Option Int)))) (x1 x2 : Int) (x3 : List (Option Int)) (x4 x5 : Int) : Option (Int × (List (Option Int))) :=
  req ((0 : Int) ≤ x1 ∧ (x1 : Int) < ((31 : Nat) : Int)) <|
  req ((0 : Int) ≤ (if x1 < x2 then x1 else x2) ∧ ((if x1 < x2 then x1 else x2) : Int) < ((31 : Nat) : Int)) <|
  Option.bind ((x3)[((0 + ((Int.toNat x1) * 31)) + ((Int.toNat (if x1 < x2 then x1 else x2)) * 1))]?) fun x6 =>
  match x6 with
  | none =>
    Option.bind (f84_2 F rec x3 x4 x5) fun (x8, x9) =>
    req (((0 + ((Int.toNat x1) * 31)) + ((Int.toNat (if x1 < x2 then x1 else x2)) * 1)) < 961) <|
    Option.bind (((List.set x9 ((0 + ((Int.toNat x1) * 31)) + ((Int.toNat (if x1 < x2 then x1 else x2)) * 1)) (some x8)))[((0 + ((Int.toNat x1) * 31)) + ((Int.toNat (if x1 < x2 then x1 else x2)) * 1))]?) fun x10 =>
    match x10 with
    | none =>
      none
    | some x11 =>
      some (x11, (List.set x9 ((0 + ((Int.toNat x1) * 31)) + ((Int.toNat (if x1 < x2 then x1 else x2)) * 1)) (some x8)))
  | some x7 =>
    some (x7, x3)
def f58_2_b (F : Nat) (rec : Int → Int → (List (Option Int)) → Option (Int × (List (Option Int)))) (x1 x2 : Int) (x3 : List (Option Int)) : Option (Int × (List (Option Int))) :=
  if (x1 == 0) = true then
    some (1, x3)
  else
  if ((if x1 < x2 then x1 else x2) == 0) = true then
    some (0, x3)
  else
    Option.bind (f83_2 F rec x1 (if x1 < x2 then x1 else x2) x3 x1 (if x1 < x2 then x1 else x2)) fun (x4, x5) =>
    some (x4, x5)
def f58_2 (F : Nat) : Nat → Int → Int → (List (Option Int)) → Option (Int × (List (Option Int)))
  | 0 => fun _ _ _ => none
  | k + 1 => f58_2_b F (f58_2 F k)

def f38_p8_2 (F : Nat) (x36 x37 : Int) (x35 : List Int) : Nat → Int → (List (Option Int)) → Option (Int × (List (Option Int)))
  | 0, _, _ => none
  | k + 1, x42, x43 =>
    Option.bind (f58_2 F F x36 x42 x43) fun (x44, x45) =>
    if (decide (x44 ≤ x37)) = true then
      f38_p8_2 F x36 x37 x35 k (w64 (x42 + 1)) x45
    else
      some (x42, x45)
def f38_p4 (F : Nat) : Nat → Int → Int → (List (Option Int)) → (List Int) → Option (List Int)
  | 0, _, _, _, _ => none
  | k + 1, x36, x37, x38, x35 =>
    if (decide (x36 > 0)) = true then
      Option.bind (f38_p8_2 F x36 x37 x35 F 1 x38) fun (x46, x47) =>
      Option.bind (f58_2 F F x36 (w64 (x46 - 1)) x47) fun (x48, x49) =>
      req (List.length x35 + List.length ([x46] : List Int) ≤ 1099511627776) <|
      f38_p4 F k (w64 (x36 - x46)) (w64 (x37 - x48)) x49 (x35 ++ ([x46] : List Int))
    else
      some x35
def f38 (F : Nat) (x1 x2 : Int) : Option ((List Int) × Int) :=
  Option.bind (f15 F x1) fun (x3, x4) =>
  if (x4 != 0) = true then
    some (([] : List Int), x4)
  else
    Option.bind (f57 F x2 0 (w64 (x3 - 1))) fun x5 =>
    if x5 = true then
      Option.bind (f38_p4 F F x1 x2 (List.replicate 961 none) ([] : List Int)) fun x50 =>
      some ((List.drop 0 (List.take (0 + (List.length x50)) x50)), 0)
    else
      some (([] : List Int), 1)

def f64 (F : Nat) (x1 : Int) : Option Bool :=
  some ((Int.tmod x1 2) == 0)

inductive f85_p1_R where
  | c0 (a0 : Int)
  | c1
def f85_p1 (F : Nat) (x1 : List Int) : Nat → Int → Option f85_p1_R
  | 0, _ => none
  | k + 1, x2 =>
    if (decide (x2 < ((List.length x1 : Nat) : Int))) = true then
      Option.bind (at? x1 x2) fun x3 =>
      Option.bind (f64 F x3) fun x4 =>
      if x4 = true then
        some (.c0 x2)
      else
        f85_p1 F x1 k (w64 (x2 + 1))
    else
      some .c1
def f85 (F : Nat) (x1 : List Int) : Option Int :=
  Option.bind (f85_p1 F x1 F 0) fun
  | .c0 x5 =>
    some x5
  | .c1 =>
    some (-1)

def f63 (F : Nat) (x1 : List Int) : Option Bool :=
  Option.bind (f85 F x1) fun x2 =>
  some (decide (x2 ≥ 0))

def f87 (F : Nat) (x1 x2 : Int) : Option Int :=
  some (w64 (x2 - x1))

def f107_p5_2 (F : Nat) (x3 : List Int) (x1 x2 x38 : Int) : Nat → Int → (List Int) → Option (List Int)
  | 0, _, _ => none
  | k + 1, x44, x43 =>
    if (decide (x44 > x1)) = true then
      req ((0 : Int) ≤ x44 ∧ (x44 : Int) < (((List.length x3) : Nat) : Int)) <|
      Option.bind ((x43)[(0 + (Int.toNat x44))]?) fun x45 =>
      req ((0 : Int) ≤ (w64 (x44 - 1)) ∧ ((w64 (x44 - 1)) : Int) < (((List.length x3) : Nat) : Int)) <|
      Option.bind ((x43)[(0 + (Int.toNat (w64 (x44 - 1))))]?) fun x46 =>
      Option.bind (f87 F x45 x46) fun x47 =>
      if (decide (x47 < 0)) = true then
        req ((0 + (Int.toNat x44)) < List.length x43) <|
        req ((0 + (Int.toNat (w64 (x44 - 1)))) < List.length (List.set x43 (0 + (Int.toNat x44)) x46)) <|
        f107_p5_2 F x3 x1 x2 x38 k (w64 (x44 - 1)) (List.set (List.set x43 (0 + (Int.toNat x44)) x46) (0 + (Int.toNat (w64 (x44 - 1)))) x45)
      else
        some x43
    else
      some x43
def f107_p1 (F : Nat) (x3 : List Int) (x1 x2 : Int) : Nat → Int → (List Int) → Option (List Int)
  | 0, _, _ => none
  | k + 1, x38, x37 =>
    if (decide (x38 < x2)) = true then
      Option.bind (f107_p5_2 F x3 x1 x2 x38 F x38 x37) fun x48 =>
      f107_p1 F x3 x1 x2 k (w64 (x38 + 1)) x48
    else
      some x37
def f107 (F : Nat) (x1 x2 : Int) (x3 : List Int) : Option (List Int) :=
  Option.bind (f107_p1 F x3 x1 x2 F (w64 (x1 + 1)) x3) fun x49 =>
  some x49

def f93_p5_1 (F : Nat) (x11 : List Int) (x12 x13 x14 : Int) (x15 x16 : Bool) : Option Unit :=
  if x15 = true then
    some ()
  else
    none
def f93_p1 (F : Nat) : Nat → Int → Int → Int → Bool → Bool → (List Int) → Option (List Int)
  | 0, _, _, _, _, _, _ => none
  | k + 1, x12, x13, x14, x15, x16, x11 =>
    if (decide ((w64 (x13 - x12)) ≤ 12)) = true then
      Option.bind (f107 F x12 x13 x11) fun x17 =>
      some x17
    else
    if (x14 == 0) = true then
      none
    else
      Option.bind (f93_p5_1 F x11 x12 x13 x14 x15 x16) fun _ =>
      none
def f93 (F : Nat) (x1 x2 x3 : Int) (x4 : List Int) : Option (List Int) :=
  Option.bind (f93_p1 F F x1 x2 x3 true true x4) fun x18 =>
  some x18

def f86 (F : Nat) (x1 : List Int) : Option (List Int) :=
  Option.bind (f92 F (IntKind.wrap .u64 ((((List.length x1) : Nat) : Int)))) fun x2 =>
  Option.bind (f93 F 0 (((List.length x1) : Nat) : Int) x2 x1) fun x3 =>
  some x3

def f65 (F : Nat) (x1 : List Int) : Option (Nat × (List Int)) :=
  Option.bind (f86 F x1) fun x2 =>
  some ((List.length x1), x2)

def f27_p4 (F : Nat) (x1 : List Int) : Nat → Int → (List Int) → Option (List Int)
  | 0, _, _ => none
  | k + 1, x7, x8 =>
    if (decide (x7 < ((List.length x1 : Nat) : Int))) = true then
      Option.bind (at? x1 x7) fun x9 =>
      req ((0 : Int) ≤ x9 ∧ (x9 : Int) < ((31 : Nat) : Int)) <|
      Option.bind ((x8)[(0 + ((Int.toNat x9) * 1))]?) fun x10 =>
      req ((0 + ((Int.toNat x9) * 1)) < 31) <|
      f27_p4 F x1 k (w64 (x7 + 1)) (List.set x8 (0 + ((Int.toNat x9) * 1)) (w64 (x10 + 1)))
    else
      some x8
def f27_p15_2 (F : Nat) (x22 : List Int) (x21 : Int) (x11 : List Int) (x23 : Int) : Option (List Int) :=
  if ((iAnd .i64 ((x11)[(Int.toNat x21)]?.getD 0) x23) != 0) = true then
    req (List.length x22 + List.length ([(w64 (x21 * x23))] : List Int) ≤ 1099511627776) <|
    some (x22 ++ ([(w64 (x21 * x23))] : List Int))
  else
    some x22
def f27_p12_1 (F : Nat) (x21 : Int) (x11 : List Int) : Nat → Int → (List Int) → Option (List Int)
  | 0, _, _ => none
  | k + 1, x23, x22 =>
    if (decide (x23 ≤ ((x11)[(Int.toNat x21)]?.getD 0))) = true then
      Option.bind (f27_p15_2 F x22 x21 x11 x23) fun x24 =>
      f27_p12_1 F x21 x11 k (w64 (x23 * 2)) x24
    else
      some x22
def f27_p8 (F : Nat) (x11 : List Int) : Nat → Int → (List Int) → Option (List Int)
  | 0, _, _ => none
  | k + 1, x21, x20 =>
    if (decide (x21 < 31)) = true then
      req ((0 : Int) ≤ x21 ∧ (x21 : Int) < ((31 : Nat) : Int)) <|
      Option.bind (f27_p12_1 F x21 x11 F 1 x20) fun x25 =>
      f27_p8 F x11 k (w64 (x21 + 1)) x25
    else
      some x20
def f27 (F : Nat) (x1 : List Int) : Option ((List Int) × Int) :=
  Option.bind (f34 F x1) fun x2 =>
  if (x2 != 0) = true then
    some (([] : List Int), x2)
  else
    Option.bind (f63 F x1) fun x3 =>
    if x3 = true then
      some (([] : List Int), 14)
    else
      Option.bind (f27_p4 F x1 F 0 (List.replicate 31 0)) fun x11 =>
      Option.bind (f27_p8 F x11 F 0 ([] : List Int)) fun x26 =>
      Option.bind (f65 F x26) fun (x27, x28) =>
      req ((0 + x27) ≤ List.length x28) <|
      some ((List.drop 0 (List.take (0 + x27) x28)), 0)

def f70 (F : Nat) (x1 : Option (List Int)) : Option (List Int) :=
  if (Option.isNone x1) = true then
    some ([] : List Int)
  else
    req (List.length ([] : List Int) + List.length ((x1).getD []) ≤ 1099511627776) <|
    some (([] : List Int) ++ ((x1).getD []))

def f70m (F : Nat) (x1 : List Int) : Option (List Int) :=
  nilm (fun o => f70 F o) x1

def f89_p10_5 (F : Nat) (x28 : List Int) (x46 x29 : Int) (x47 x48 x49 : Int) (x45 : List Int) : Option (Int × (List Int)) :=
  if (x48 != x49) = true then
    req ((0 : Int) ≤ x47 ∧ (x47 : Int) < ((((List.length x28) - (Int.toNat x29)) : Nat) : Int)) <|
    Option.bind ((x45)[((0 + (Int.toNat x29)) + (Int.toNat x47))]?) fun x50 =>
    req ((0 : Int) ≤ x46 ∧ (x46 : Int) < (((List.length x28) : Nat) : Int)) <|
    req ((0 + (Int.toNat x46)) < List.length x45) <|
    some ((w64 (x46 + 1)), (List.set x45 (0 + (Int.toNat x46)) x50))
  else
    some (x46, x45)
def f89_p7_1 (F : Nat) (x28 : List Int) (x29 : Int) : Nat → Int → Int → (List Int) → Option (Int × (List Int))
  | 0, _, _, _ => none
  | k + 1, x46, x47, x45 =>
    if (decide (x47 < ((((List.length x28) - (Int.toNat x29)) : Nat) : Int))) = true then
      req ((0 : Int) ≤ x47 ∧ (x47 : Int) < ((((List.length x28) - (Int.toNat x29)) : Nat) : Int)) <|
      Option.bind ((x45)[((0 + (Int.toNat x29)) + (Int.toNat x47))]?) fun x48 =>
      req ((0 : Int) ≤ (w64 (x47 - 1)) ∧ ((w64 (x47 - 1)) : Int) < ((((List.length x28) - (Int.toNat x29)) : Nat) : Int)) <|
      Option.bind ((x45)[((0 + (Int.toNat x29)) + (Int.toNat (w64 (x47 - 1))))]?) fun x49 =>
      Option.bind (f89_p10_5 F x28 x46 x29 x47 x48 x49 x45) fun (x51, x52) =>
      f89_p7_1 F x28 x29 k x51 (w64 (x47 + 1)) x52
    else
      some (x46, x45)
inductive f89_p2_R where
  | c0 (a0 : Nat) (a1 : List Int)
  | c1 (a0 : List Int)
def f89_p2 (F : Nat) : Nat → Int → (List Int) → Option f89_p2_R
  | 0, _, _ => none
  | k + 1, x29, x28 =>
    if (decide (x29 < (((List.length x28) : Nat) : Int))) = true then
      req ((0 : Int) ≤ x29 ∧ (x29 : Int) < (((List.length x28) : Nat) : Int)) <|
      Option.bind ((x28)[(0 + (Int.toNat x29))]?) fun x30 =>
      req ((0 : Int) ≤ (w64 (x29 - 1)) ∧ ((w64 (x29 - 1)) : Int) < (((List.length x28) : Nat) : Int)) <|
      Option.bind ((x28)[(0 + (Int.toNat (w64 (x29 - 1))))]?) fun x31 =>
      if (x30 == x31) = true then
        req ((0 : Int) ≤ x29 ∧ (x29 : Int) ≤ (((List.length x28) : Nat) : Int) ∧ ((((List.length x28) : Nat) : Int) : Int) ≤ (((List.length x28) : Nat) : Int) ∧ 0 < (List.length x28)) <|
        Option.bind (f89_p7_1 F x28 x29 F x29 1 x28) fun (x53, x54) =>
        req ((0 : Int) ≤ x53 ∧ (x53 : Int) ≤ (((List.length x28) : Nat) : Int) ∧ ((((List.length x28) : Nat) : Int) : Int) ≤ (((List.length x28) : Nat) : Int) ∧ 0 < (List.length x28)) <|
        req (((0 + (Int.toNat x53)) + ((List.length x28) - (Int.toNat x53))) ≤ List.length x54) <|
        req ((0 : Int) ≤ 0 ∧ (0 : Int) ≤ x53 ∧ (x53 : Int) ≤ (((List.length x28) : Nat) : Int) ∧ 0 < (List.length x28)) <|
        some (.c0 (Int.toNat x53) (List.take (0 + (Int.toNat x53)) x54 ++ List.replicate ((List.length x28) - (Int.toNat x53)) (0 : Int) ++ List.drop ((0 + (Int.toNat x53)) + ((List.length x28) - (Int.toNat x53))) x54))
      else
        f89_p2 F k (w64 (x29 + 1)) x28
    else
      some (.c1 x28)
inductive f89_R where
  | c0 (a0 : List Int)
  | c1 (a0 : Nat) (a1 : List Int)
def f89 (F : Nat) (x1 : List Int) : Option f89_R :=
  if (decide ((((List.length x1) : Nat) : Int) < 2)) = true then
    some (.c0 x1)
  else
    Option.bind (f89_p2 F F 1 x1) fun
    | .c0 x55 x56 =>
      some (.c1 x55 x56)
    | .c1 x57 =>
      some (.c0 x57)

def f68 (F : Nat) (x1 : List Int) : Option Bool :=
  Option.bind (f70m F x1) fun x2 =>
  Option.bind (f89 F x2) fun
  | .c0 x3 =>
    some ((((List.length x3) : Nat) : Int) == ((List.length x1 : Nat) : Int))
  | .c1 x4 x5 =>
    some (((x4 : Nat) : Int) == ((List.length x1 : Nat) : Int))

def f107_1_p5_2 (F : Nat) (x3 : List Int) (x1 x2 x38 : Int) : Nat → Int → (List Int) → Option (List Int)
  | 0, _, _ => none
  | k + 1, x44, x43 =>
    if (decide (x44 > x1)) = true then
      req ((0 : Int) ≤ x44 ∧ (x44 : Int) < (((List.length x3) : Nat) : Int)) <|
      Option.bind ((x43)[(0 + (Int.toNat x44))]?) fun x45 =>
      req ((0 : Int) ≤ (w64 (x44 - 1)) ∧ ((w64 (x44 - 1)) : Int) < (((List.length x3) : Nat) : Int)) <|
      Option.bind ((x43)[(0 + (Int.toNat (w64 (x44 - 1))))]?) fun x46 =>
      Option.bind (f87 F x45 x46) fun x47 =>
      if (decide (x47 < 0)) = true then
        req ((0 + (Int.toNat x44)) < List.length x43) <|
        req ((0 + (Int.toNat (w64 (x44 - 1)))) < List.length (List.set x43 (0 + (Int.toNat x44)) x46)) <|
        f107_1_p5_2 F x3 x1 x2 x38 k (w64 (x44 - 1)) (List.set (List.set x43 (0 + (Int.toNat x44)) x46) (0 + (Int.toNat (w64 (x44 - 1)))) x45)
      else
        some x43
    else
      some x43
def f107_1_p1 (F : Nat) (x3 : List Int) (x1 x2 : Int) : Nat → Int → (List Int) → Option (List Int)
  | 0, _, _ => none
  | k + 1, x38, x37 =>
    if (decide (x38 < x2)) = true then
      Option.bind (f107_1_p5_2 F x3 x1 x2 x38 F x38 x37) fun x48 =>
      f107_1_p1 F x3 x1 x2 k (w64 (x38 + 1)) x48
    else
      some x37
def f107_1 (F : Nat) (x1 x2 : Int) (x3 : List Int) : Option (List Int) :=
  Option.bind (f107_1_p1 F x3 x1 x2 F (w64 (x1 + 1)) x3) fun x49 =>
  some x49

def f93_1_p5_1 (F : Nat) (x11 : List Int) (x12 x13 x14 : Int) (x15 x16 : Bool) : Option Unit :=
  if x15 = true then
    some ()
  else
    none
def f93_1_p1 (F : Nat) : Nat → Int → Int → Int → Bool → Bool → (List Int) → Option (List Int)
  | 0, _, _, _, _, _, _ => none
  | k + 1, x12, x13, x14, x15, x16, x11 =>
    if (decide ((w64 (x13 - x12)) ≤ 12)) = true then
      Option.bind (f107_1 F x12 x13 x11) fun x17 =>
      some x17
    else
    if (x14 == 0) = true then
      none
    else
      Option.bind (f93_1_p5_1 F x11 x12 x13 x14 x15 x16) fun _ =>
      none
def f93_1 (F : Nat) (x1 x2 x3 : Int) (x4 : List Int) : Option (List Int) :=
  Option.bind (f93_1_p1 F F x1 x2 x3 true true x4) fun x18 =>
  some x18

def f86_1 (F : Nat) (x1 : List Int) : Option (List Int) :=
  Option.bind (f92 F (IntKind.wrap .u64 ((((List.length x1) : Nat) : Int)))) fun x2 =>
  Option.bind (f93_1 F 0 (((List.length x1) : Nat) : Int) x2 x1) fun x3 =>
  some x3

def f65_1 (F : Nat) (x1 : List Int) : Option (Nat × (List Int)) :=
  Option.bind (f86_1 F x1) fun x2 =>
  some ((List.length x1), x2)

def f29_p8_1 (F : Nat) (x14 : Int) (x1 : List Int) (x13 : Int) : Nat → Int → (List Int) → Option (List Int)
  | 0, _, _ => none
  | k + 1, x16, x15 =>
    if (decide (x16 < (w64 (Int.tdiv x14 (w64 (Int.tdiv x14 (iAnd .i64 x14 (w64 (0 - x14))))))))) = true then
      req (List.length x15 + List.length ([(w64 (Int.tdiv x14 (iAnd .i64 x14 (w64 (0 - x14)))))] : List Int) ≤ 1099511627776) <|
      f29_p8_1 F x14 x1 x13 k (w64 (x16 + 1)) (x15 ++ ([(w64 (Int.tdiv x14 (iAnd .i64 x14 (w64 (0 - x14)))))] : List Int))
    else
      some x15
def f29_p4 (F : Nat) (x1 : List Int) : Nat → Int → (List Int) → Option (List Int)
  | 0, _, _ => none
  | k + 1, x13, x12 =>
    if (decide (x13 < ((List.length x1 : Nat) : Int))) = true then
      Option.bind (at? x1 x13) fun x14 =>
      req (((iAnd .i64 x14 (w64 (0 - x14))) : Int) ≠ 0) <|
      req (((w64 (Int.tdiv x14 (iAnd .i64 x14 (w64 (0 - x14))))) : Int) ≠ 0) <|
      Option.bind (f29_p8_1 F x14 x1 x13 F 0 x12) fun x17 =>
      f29_p4 F x1 k (w64 (x13 + 1)) x17
    else
      some x12
def f29 (F : Nat) (x1 : List Int) : Option ((List Int) × Int) :=
  Option.bind (f34 F x1) fun x2 =>
  if (x2 != 0) = true then
    some (([] : List Int), x2)
  else
    Option.bind (f68 F x1) fun x3 =>
    if x3 = true then
      Option.bind (f29_p4 F x1 F 0 ([] : List Int)) fun x18 =>
      Option.bind (f65_1 F x18) fun (x19, x20) =>
      req ((0 + x19) ≤ List.length x20) <|
      some ((List.drop 0 (List.take (0 + x19) x20)), 0)
    else
      some (([] : List Int), 14)

def f70_1 (F : Nat) (x1 : Option (List Int)) : Option (List Int) :=
  if (Option.isNone x1) = true then
    some ([] : List Int)
  else
    req (List.length ([] : List Int) + List.length ((x1).getD []) ≤ 1099511627776) <|
    some (([] : List Int) ++ ((x1).getD []))

def f70_1m (F : Nat) (x1 : List Int) : Option (List Int) :=
  nilm (fun o => f70_1 F o) x1

def f32_p5 (F : Nat) (x1 : List Int) (x4 : Int) : Nat → Int → Int → Option Int
  | 0, _, _ => none
  | k + 1, x5, x6 =>
    if (decide (x6 < ((List.length x1 : Nat) : Int))) = true then
      Option.bind (at? x1 x6) fun x7 =>
      Option.bind (at? x1 0) fun x8 =>
      if (x7 != (w64 (x8 - x6))) = true then
        some x5
      else
        f32_p5 F x1 x4 k (w64 (x5 + 1)) (w64 (x6 + 1))
    else
      some x5
def f32_p13 (F : Nat) (x1 : List Int) (x4 : Int) : Nat → Int → (List Int) → Option (List Int)
  | 0, _, _ => none
  | k + 1, x15, x14 =>
    if (decide (x15 < x4)) = true then
      req ((0 : Int) ≤ x15 ∧ (x15 : Int) < (((Int.toNat (w64 (((List.length x1 : Nat) : Int) - 1))) : Nat) : Int)) <|
      Option.bind ((x14)[(0 + (Int.toNat x15))]?) fun x16 =>
      req ((0 + (Int.toNat x15)) < List.length x14) <|
      f32_p13 F x1 x4 k (w64 (x15 + 1)) (List.set x14 (0 + (Int.toNat x15)) (w64 (x16 + 1)))
    else
      some x14
def f32_p17 (F : Nat) (x9 : Int) (x10 : List Int) : Nat → Int → (List Int) → Option (List Int)
  | 0, _, _ => none
  | k + 1, x24, x23 =>
    if (decide (x24 < x9)) = true then
      req ((0 : Int) ≤ x24 ∧ (x24 : Int) < (((List.length x10) : Nat) : Int)) <|
      Option.bind ((x23)[(0 + (Int.toNat x24))]?) fun x25 =>
      req ((0 + (Int.toNat x24)) < List.length x23) <|
      f32_p17 F x9 x10 k (w64 (x24 + 1)) (List.set x23 (0 + (Int.toNat x24)) (w64 (x25 - 1)))
    else
      some x23
inductive f32_p11_R where
  | c0 (a0 : List Int)
  | c1 (a0 : List Int)
def f32_p11 (F : Nat) (x1 : List Int) (x4 x9 : Int) (x10 : List Int) : Option f32_p11_R :=
  if (decide (x4 ≤ x9)) = true then
    req ((0 : Int) ≤ 0 ∧ (0 : Int) ≤ (w64 (((List.length x1 : Nat) : Int) - 1)) ∧ ((w64 (((List.length x1 : Nat) : Int) - 1)) : Int) ≤ (((List.length x10) : Nat) : Int) ∧ 0 < (List.length x10)) <|
    Option.bind (f32_p13 F x1 x4 F 0 x10) fun x17 =>
    some (.c0 x17)
  else
    Option.bind (f32_p17 F x9 x10 F 0 x10) fun x26 =>
    req (List.length x26 + List.length ([x9] : List Int) ≤ 1099511627776) <|
    req ((List.length x10) = List.length x26) <|
    some (.c1 (x26 ++ ([x9] : List Int)))
def f32_p13_1 (F : Nat) (x1 : List Int) (x4 : Int) : Nat → Int → (List Int) → Option (List Int)
  | 0, _, _ => none
  | k + 1, x32, x31 =>
    if (decide (x32 < x4)) = true then
      req ((0 : Int) ≤ x32 ∧ (x32 : Int) < (((Int.toNat (w64 (((List.length x1 : Nat) : Int) - 1))) : Nat) : Int)) <|
      Option.bind ((x31)[(0 + (Int.toNat x32))]?) fun x33 =>
      req ((0 + (Int.toNat x32)) < List.length x31) <|
      f32_p13_1 F x1 x4 k (w64 (x32 + 1)) (List.set x31 (0 + (Int.toNat x32)) (w64 (x33 + 1)))
    else
      some x31
def f32_p17_1 (F : Nat) (x9 : Int) (x10 : List Int) : Nat → Int → (List Int) → Option (List Int)
  | 0, _, _ => none
  | k + 1, x41, x40 =>
    if (decide (x41 < x9)) = true then
      req ((0 : Int) ≤ x41 ∧ (x41 : Int) < (((List.length x10) : Nat) : Int)) <|
      Option.bind ((x40)[(0 + (Int.toNat x41))]?) fun x42 =>
      req ((0 + (Int.toNat x41)) < List.length x40) <|
      f32_p17_1 F x9 x10 k (w64 (x41 + 1)) (List.set x40 (0 + (Int.toNat x41)) (w64 (x42 - 1)))
    else
      some x40
inductive f32_p11_1_R where
  | c0 (a0 : List Int)
  | c1 (a0 : List Int)
def f32_p11_1 (F : Nat) (x1 : List Int) (x4 x9 : Int) (x10 : List Int) : Option f32_p11_1_R :=
  if (decide (x4 ≤ x9)) = true then
    req ((0 : Int) ≤ 0 ∧ (0 : Int) ≤ (w64 (((List.length x1 : Nat) : Int) - 1)) ∧ ((w64 (((List.length x1 : Nat) : Int) - 1)) : Int) ≤ (((List.length x10) : Nat) : Int) ∧ 0 < (List.length x10)) <|
    Option.bind (f32_p13_1 F x1 x4 F 0 x10) fun x34 =>
    some (.c0 x34)
  else
    Option.bind (f32_p17_1 F x9 x10 F 0 x10) fun x43 =>
    req (List.length x43 + List.length ([x9] : List Int) ≤ 1099511627776) <|
    req ((List.length x10) = List.length x43) <|
    some (.c1 (x43 ++ ([x9] : List Int)))
def f32 (F : Nat) (x1 : List Int) : Option ((List Int) × Int) :=
  Option.bind (f34 F x1) fun x2 =>
  if (x2 != 0) = true then
    some (([] : List Int), x2)
  else
    Option.bind (f68 F x1) fun x3 =>
    if x3 = true then
      if (((List.length x1 : Nat) : Int) == 0) = true then
        some (([] : List Int), 12)
      else
        Option.bind (at? x1 (w64 (((List.length x1 : Nat) : Int) - 1))) fun x4 =>
        Option.bind (f32_p5 F x1 x4 F 0 0) fun x9 =>
        Option.bind (f70_1m F x1) fun x10 =>
        if (x9 == ((List.length x1 : Nat) : Int)) = true then
          Option.bind (f57 F x4 ((List.length x1 : Nat) : Int) (w64 (((List.length x1 : Nat) : Int) + 1))) fun x11 =>
          if x11 = true then
            some (([] : List Int), 12)
          else
            Option.bind (f32_p11 F x1 x4 x9 x10) fun
            | .c0 x27 =>
              req ((0 + (Int.toNat (w64 (((List.length x1 : Nat) : Int) - 1)))) ≤ List.length x27) <|
              some ((List.drop 0 (List.take (0 + (Int.toNat (w64 (((List.length x1 : Nat) : Int) - 1)))) x27)), 0)
            | .c1 x28 =>
              some ((List.drop 0 (List.take (0 + (List.length x28)) x28)), 0)
        else
          Option.bind (f32_p11_1 F x1 x4 x9 x10) fun
          | .c0 x44 =>
            req ((0 + (Int.toNat (w64 (((List.length x1 : Nat) : Int) - 1)))) ≤ List.length x44) <|
            some ((List.drop 0 (List.take (0 + (Int.toNat (w64 (((List.length x1 : Nat) : Int) - 1)))) x44)), 0)
          | .c1 x45 =>
            some ((List.drop 0 (List.take (0 + (List.length x45)) x45)), 0)
    else
      some (([] : List Int), 14)

def f74_p4 (F : Nat) (x2 x3 : Int) (x1 : List Int) (x4 : Int) : Option Int :=
  if (decide (x4 > x3)) = true then
    some (w64 (x3 + 1))
  else
    some x2
def f74_p1 (F : Nat) (x1 : List Int) : Nat → Int → Int → Option Int
  | 0, _, _ => none
  | k + 1, x2, x3 =>
    if (decide (x3 < ((List.length x1 : Nat) : Int))) = true then
      Option.bind (at? x1 x3) fun x4 =>
      Option.bind (f74_p4 F x2 x3 x1 x4) fun x5 =>
      f74_p1 F x1 k x5 (w64 (x3 + 1))
    else
      some x2
def f74 (F : Nat) (x1 : List Int) : Option Int :=
  Option.bind (f74_p1 F x1 F 0 0) fun x6 =>
  some x6

def f70_2 (F : Nat) (x1 : Option (List Int)) : Option (List Int) :=
  if (Option.isNone x1) = true then
    some ([] : List Int)
  else
    req (List.length ([] : List Int) + List.length ((x1).getD []) ≤ 1099511627776) <|
    some (List.drop 0 (List.take (0 + (List.length (([] : List Int) ++ ((x1).getD [])))) (([] : List Int) ++ ((x1).getD []))))

def f70_2m (F : Nat) (x1 : List Int) : Option (List Int) :=
  nilm (fun o => f70_2 F o) x1

def f40_p5_1 (F : Nat) (x1 : List Int) (x3 : Int) (x6 : List Int) (x8 x7 : Int) : Option (List Int) :=
  if (decide (x8 > x3)) = true then
    req (List.length x6 + List.length ([(w64 (x8 - x3))] : List Int) ≤ 1099511627776) <|
    some (x6 ++ ([(w64 (x8 - x3))] : List Int))
  else
    some x6
def f40_p2 (F : Nat) (x1 : List Int) (x3 : Int) : Nat → Int → (List Int) → Option (List Int)
  | 0, _, _ => none
  | k + 1, x7, x6 =>
    if (decide (x7 < ((List.length (List.drop 0 (List.take (Int.toNat x3) x1)) : Nat) : Int))) = true then
      Option.bind (at? (List.drop 0 (List.take (Int.toNat x3) x1)) x7) fun x8 =>
      Option.bind (f40_p5_1 F x1 x3 x6 x8 x7) fun x9 =>
      f40_p2 F x1 x3 k (w64 (x7 + 1)) x9
    else
      some x6
def f40 (F : Nat) (x1 : List Int) : Option (Int × (List Int) × (List Int) × Int) :=
  Option.bind (f34 F x1) fun x2 =>
  if (x2 != 0) = true then
    some (0, ([] : List Int), ([] : List Int), x2)
  else
    Option.bind (f74 F x1) fun x3 =>
    req ((0 : Int) ≤ 0 ∧ (0 : Int) ≤ x3 ∧ (x3 : Int) ≤ ((List.length x1 : Nat) : Int)) <|
    Option.bind (f40_p2 F x1 x3 F 0 ([] : List Int)) fun x10 =>
    req ((0 : Int) ≤ x3 ∧ (x3 : Int) ≤ ((List.length x1 : Nat) : Int) ∧ (((List.length x1 : Nat) : Int) : Int) ≤ ((List.length x1 : Nat) : Int)) <|
    Option.bind (f70_2m F (List.drop (Int.toNat x3) (List.take (List.length x1) x1))) fun x11 =>
    some (x3, (List.drop 0 (List.take (0 + (List.length x10)) x10)), x11, 0)

def f95 (F : Nat) (x1 x2 : Int) : Option (Int × Int) :=
  some ((IntKind.wrap .u64 ((IntKind.wrap .u64 ((IntKind.wrap .u64 ((iShr .u64 x1 32) * (iShr .u64 x2 32))) + (iShr .u64 (IntKind.wrap .u64 ((IntKind.wrap .u64 ((iShr .u64 x1 32) * (iAnd .u64 x2 4294967295))) + (iShr .u64 (IntKind.wrap .u64 ((iAnd .u64 x1 4294967295) * (iAnd .u64 x2 4294967295))) 32))) 32))) + (iShr .u64 (IntKind.wrap .u64 ((iAnd .u64 (IntKind.wrap .u64 ((IntKind.wrap .u64 ((iShr .u64 x1 32) * (iAnd .u64 x2 4294967295))) + (iShr .u64 (IntKind.wrap .u64 ((iAnd .u64 x1 4294967295) * (iAnd .u64 x2 4294967295))) 32))) 4294967295) + (IntKind.wrap .u64 ((iAnd .u64 x1 4294967295) * (iShr .u64 x2 32))))) 32))), (IntKind.wrap .u64 (x1 * x2)))

def f90 (F : Nat) (x1 x2 : Int) : Option (Int × Int) :=
  Option.bind (f95 F x1 x2) fun (x3, x4) =>
  some (x3, x4)

def f76_p0 (F : Nat) (x1 : List Int) (x2 : Int) : Option Unit :=
  if (decide (x2 < 0)) = true then
    none
  else
    some ()
def f76_p1 (F : Nat) (x1 : List Int) (x4 : Int) : Option Unit :=
  if (decide (x4 > 9223372036854775807)) = true then
    none
  else
    some ()
def f76_p3 (F : Nat) (x4 : Int) : Nat → Int → (List Int) → Option (List Int)
  | 0, _, _ => none
  | k + 1, x7, x6 =>
    if (decide (x7 < (((Int.toNat (w64 (x4))) : Nat) : Int))) = true then
      req ((0 : Int) ≤ x7 ∧ (x7 : Int) ≤ (((Int.toNat (w64 (x4))) : Nat) : Int) ∧ ((((Int.toNat (w64 (x4))) : Nat) : Int) : Int) ≤ (((Int.toNat (w64 (x4))) : Nat) : Int) ∧ 0 < (Int.toNat (w64 (x4)))) <|
      req ((0 : Int) ≤ 0 ∧ (0 : Int) ≤ x7 ∧ (x7 : Int) ≤ (((Int.toNat (w64 (x4))) : Nat) : Int) ∧ 0 < (Int.toNat (w64 (x4)))) <|
      req ((0 + (Int.toNat x7)) ≤ List.length x6) <|
      req (((0 + (Int.toNat x7)) + ((Int.toNat (w64 (x4))) - (Int.toNat x7))) ≤ List.length x6) <|
      f76_p3 F x4 k (w64 (x7 + (((Nat.min (List.length (List.drop 0 (List.take (0 + (Int.toNat x7)) x6))) ((Int.toNat (w64 (x4))) - (Int.toNat x7))) : Nat) : Int))) (List.take (0 + (Int.toNat x7)) x6 ++ List.take (Nat.min (List.length (List.drop 0 (List.take (0 + (Int.toNat x7)) x6))) ((Int.toNat (w64 (x4))) - (Int.toNat x7))) (List.drop 0 (List.take (0 + (Int.toNat x7)) x6)) ++ List.drop ((0 + (Int.toNat x7)) + (Nat.min (List.length (List.drop 0 (List.take (0 + (Int.toNat x7)) x6))) ((Int.toNat (w64 (x4))) - (Int.toNat x7)))) x6)
    else
      some x6
def f76 (F : Nat) (x1 : List Int) (x2 : Int) : Option (Nat × (List Int)) :=
  Option.bind (f76_p0 F x1 x2) fun _ =>
  Option.bind (f90 F (IntKind.wrap .u64 (((List.length x1 : Nat) : Int))) (IntKind.wrap .u64 (x2))) fun (x3, x4) =>
  if (decide (x3 > 0)) = true then
    none
  else
    Option.bind (f76_p1 F x1 x4) fun _ =>
    req ((0 : Int) ≤ (w64 (x4)) ∧ ((w64 (x4)) : Int) ≤ (w64 (x4)) ∧ ((w64 (x4)) : Int) ≤ 1099511627776) <|
    req ((0 + (Int.toNat (w64 (x4)))) ≤ List.length (List.replicate (Int.toNat (w64 (x4))) (0 : Int))) <|
    Option.bind (f76_p3 F x4 F (((Nat.min (List.length x1) (Int.toNat (w64 (x4)))) : Nat) : Int) (List.take 0 (List.replicate (Int.toNat (w64 (x4))) (0 : Int)) ++ List.take (Nat.min (List.length x1) (Int.toNat (w64 (x4)))) x1 ++ List.drop (0 + (Nat.min (List.length x1) (Int.toNat (w64 (x4))))) (List.replicate (Int.toNat (w64 (x4))) (0 : Int)))) fun x8 =>
    some ((Int.toNat (w64 (x4))), x8)

def f42_p0 (F : Nat) (x1 : Int) (x2 x3 : List Int) (x4 : Int) : Option Int :=
  if (x4 == 0) = true then
    Option.bind (f34 F x3) fun x5 =>
    some x5
  else
    some x4
def f42_p7 (F : Nat) (x3 : List Int) (x11 : Nat) (x2 : List Int) : Nat → Int → (List Int) → Option (List Int)
  | 0, _, _ => none
  | k + 1, x17, x16 =>
    if (decide (x17 < ((List.length x2 : Nat) : Int))) = true then
      Option.bind (at? x2 x17) fun x18 =>
      req ((0 : Int) ≤ x17 ∧ (x17 : Int) < ((x11 : Nat) : Int)) <|
      Option.bind ((x16)[(0 + (Int.toNat x17))]?) fun x19 =>
      req ((0 + (Int.toNat x17)) < List.length x16) <|
      f42_p7 F x3 x11 x2 k (w64 (x17 + 1)) (List.set x16 (0 + (Int.toNat x17)) (w64 (x19 + x18)))
    else
      some x16
def f42_p7_1 (F : Nat) (x3 : List Int) (x23 : Nat) (x2 : List Int) : Nat → Int → (List Int) → Option (List Int)
  | 0, _, _ => none
  | k + 1, x29, x28 =>
    if (decide (x29 < ((List.length x2 : Nat) : Int))) = true then
      Option.bind (at? x2 x29) fun x30 =>
      req ((0 : Int) ≤ x29 ∧ (x29 : Int) < ((x23 : Nat) : Int)) <|
      Option.bind ((x28)[(0 + (Int.toNat x29))]?) fun x31 =>
      req ((0 + (Int.toNat x29)) < List.length x28) <|
      f42_p7_1 F x3 x23 x2 k (w64 (x29 + 1)) (List.set x28 (0 + (Int.toNat x29)) (w64 (x31 + x30)))
    else
      some x28
def f42 (F : Nat) (x1 : Int) (x2 x3 : List Int) : Option ((List Int) × Int) :=
  Option.bind (f34 F x2) fun x4 =>
  Option.bind (f42_p0 F x1 x2 x3 x4) fun x6 =>
  if (x6 != 0) = true then
    some (([] : List Int), x6)
  else
    Option.bind (f57 F x1 0 30) fun x7 =>
    if x7 = true then
      if (decide (((List.length x2 : Nat) : Int) > x1)) = true then
        some (([] : List Int), 5)
      else
      if (decide (((List.length x3 : Nat) : Int) > 0)) = true then
        Option.bind (at? x3 0) fun x8 =>
        if (decide (x8 > x1)) = true then
          some (([] : List Int), 5)
        else
          Option.bind (f72 F x2) fun x9 =>
          Option.bind (f72 F x3) fun x10 =>
          if (decide ((w64 ((w64 ((w64 (x1 * x1)) + x9)) + x10)) > 30)) = true then
            some (([] : List Int), 3)
          else
            Option.bind (f76 F ([x1] : List Int) x1) fun (x11, x12) =>
            Option.bind (f42_p7 F x3 x11 x2 F 0 x12) fun x20 =>
            req (List.length x20 + List.length x3 ≤ 1099511627776) <|
            req (x11 = List.length x20) <|
            some ((List.drop 0 (List.take (0 + (List.length (x20 ++ x3))) (x20 ++ x3))), 0)
      else
        Option.bind (f72 F x2) fun x21 =>
        Option.bind (f72 F x3) fun x22 =>
        if (decide ((w64 ((w64 ((w64 (x1 * x1)) + x21)) + x22)) > 30)) = true then
          some (([] : List Int), 3)
        else
          Option.bind (f76 F ([x1] : List Int) x1) fun (x23, x24) =>
          Option.bind (f42_p7_1 F x3 x23 x2 F 0 x24) fun x32 =>
          req (List.length x32 + List.length x3 ≤ 1099511627776) <|
          req (x23 = List.length x32) <|
          some ((List.drop 0 (List.take (0 + (List.length (x32 ++ x3))) (x32 ++ x3))), 0)
    else
      some (([] : List Int), 1)

inductive f77_p2_R where
  | c0
  | c1
def f77_p2 (F : Nat) (x1 x2 : List Int) : Nat → Int → Option f77_p2_R
  | 0, _ => none
  | k + 1, x3 =>
    if (decide (x3 < ((List.length x1 : Nat) : Int))) = true then
      Option.bind (at? x1 x3) fun x4 =>
      Option.bind (at? x2 x3) fun x5 =>
      if (x4 != x5) = true then
        some .c0
      else
        f77_p2 F x1 x2 k (w64 (x3 + 1))
    else
      some .c1
def f77 (F : Nat) (x1 x2 : List Int) : Option Bool :=
  if (((List.length x1 : Nat) : Int) != ((List.length x2 : Nat) : Int)) = true then
    some false
  else
    Option.bind (f77_p2 F x1 x2 F 0) fun
    | .c0 =>
      some false
    | .c1 =>
      some true

def f44_p4 (F : Nat) (x1 : List Int) (x5 : Int) : Nat → Int → (List Int) → Option (List Int)
  | 0, _, _ => none
  | k + 1, x10, x9 =>
    if (decide (x10 < x5)) = true then
      Option.bind (at? x1 x10) fun x11 =>
      req (List.length x9 + List.length ([(w64 ((w64 (2 * (w64 (x11 - x10)))) - 1))] : List Int) ≤ 1099511627776) <|
      f44_p4 F x1 x5 k (w64 (x10 + 1)) (x9 ++ ([(w64 ((w64 (2 * (w64 (x11 - x10)))) - 1))] : List Int))
    else
      some x9
def f44 (F : Nat) (x1 : List Int) : Option ((List Int) × Int) :=
  Option.bind (f34 F x1) fun x2 =>
  if (x2 != 0) = true then
    some (([] : List Int), x2)
  else
    Option.bind (f61 F x1) fun x3 =>
    Option.bind (f77 F x3 x1) fun x4 =>
    if x4 = true then
      Option.bind (f74 F x1) fun x5 =>
      Option.bind (f44_p4 F x1 x5 F 0 ([] : List Int)) fun x12 =>
      some ((List.drop 0 (List.take (0 + (List.length x12)) x12)), 0)
    else
      some (([] : List Int), 14)

def f78 (F : Nat) (x1 : Int) : Option Bool :=
  some ((Int.tmod x1 2) == 0)

inductive f85_1_p1_R where
  | c0 (a0 : Int)
  | c1
def f85_1_p1 (F : Nat) (x1 : List Int) : Nat → Int → Option f85_1_p1_R
  | 0, _ => none
  | k + 1, x2 =>
    if (decide (x2 < ((List.length x1 : Nat) : Int))) = true then
      Option.bind (at? x1 x2) fun x3 =>
      Option.bind (f78 F x3) fun x4 =>
      if x4 = true then
        some (.c0 x2)
      else
        f85_1_p1 F x1 k (w64 (x2 + 1))
    else
      some .c1
def f85_1 (F : Nat) (x1 : List Int) : Option Int :=
  Option.bind (f85_1_p1 F x1 F 0) fun
  | .c0 x5 =>
    some x5
  | .c1 =>
    some (-1)

def f63_1 (F : Nat) (x1 : List Int) : Option Bool :=
  Option.bind (f85_1 F x1) fun x2 =>
  some (decide (x2 ≥ 0))

def f46_p8_1 (F : Nat) (x14 : Int) (x1 : List Int) (x16 : Int) : Nat → Int → (List Int) → Option (List Int)
  | 0, _, _ => none
  | k + 1, x20, x21 =>
    if (decide (x20 < (w64 (Int.tdiv x16 2)))) = true then
      req ((0 : Int) ≤ (w64 ((w64 (x14 + 1)) + x20)) ∧ ((w64 ((w64 (x14 + 1)) + x20)) : Int) < ((31 : Nat) : Int)) <|
      Option.bind ((x21)[(0 + ((Int.toNat (w64 ((w64 (x14 + 1)) + x20))) * 1))]?) fun x22 =>
      req ((0 + ((Int.toNat (w64 ((w64 (x14 + 1)) + x20))) * 1)) < 31) <|
      f46_p8_1 F x14 x1 x16 k (w64 (x20 + 1)) (List.set x21 (0 + ((Int.toNat (w64 ((w64 (x14 + 1)) + x20))) * 1)) (w64 (x22 + 1)))
    else
      some x21
def f46_p4 (F : Nat) (x1 : List Int) : Nat → Int → (List Int) → Option (List Int)
  | 0, _, _ => none
  | k + 1, x14, x15 =>
    if (decide (x14 < ((List.length x1 : Nat) : Int))) = true then
      Option.bind (at? x1 x14) fun x16 =>
      req ((0 : Int) ≤ x14 ∧ (x14 : Int) < ((31 : Nat) : Int)) <|
      Option.bind ((x15)[(0 + ((Int.toNat x14) * 1))]?) fun x17 =>
      req ((0 + ((Int.toNat x14) * 1)) < 31) <|
      Option.bind (f46_p8_1 F x14 x1 x16 F 0 (List.set x15 (0 + ((Int.toNat x14) * 1)) (w64 (x17 + (w64 ((w64 (Int.tdiv x16 2)) + 1)))))) fun x23 =>
      f46_p4 F x1 k (w64 (x14 + 1)) x23
    else
      some x15
def f46_p15_1 (F : Nat) (x27 x24 : List Int) (x28 : Int) : Option (List Int) :=
  if (decide (((x24)[(Int.toNat x28)]?.getD 0) > 0)) = true then
    req (List.length x27 + List.length ([((x24)[(Int.toNat x28)]?.getD 0)] : List Int) ≤ 1099511627776) <|
    some (x27 ++ ([((x24)[(Int.toNat x28)]?.getD 0)] : List Int))
  else
    some x27
def f46_p12 (F : Nat) (x24 : List Int) : Nat → Int → (List Int) → Option (List Int)
  | 0, _, _ => none
  | k + 1, x28, x27 =>
    if (decide (x28 < 31)) = true then
      req ((0 : Int) ≤ x28 ∧ (x28 : Int) < ((31 : Nat) : Int)) <|
      Option.bind (f46_p15_1 F x27 x24 x28) fun x29 =>
      f46_p12 F x24 k (w64 (x28 + 1)) x29
    else
      some x27
def f46 (F : Nat) (x1 : List Int) : Option ((List Int) × Int) :=
  Option.bind (f34 F x1) fun x2 =>
  if (x2 != 0) = true then
    some (([] : List Int), x2)
  else
    Option.bind (f68 F x1) fun x3 =>
    if x3 = true then
      Option.bind (f63_1 F x1) fun x4 =>
      if x4 = true then
        some (([] : List Int), 14)
      else
        Option.bind (f46_p4 F x1 F 0 (List.replicate 31 0)) fun x24 =>
        Option.bind (f46_p12 F x24 F 0 ([] : List Int)) fun x30 =>
        some ((List.drop 0 (List.take (0 + (List.length x30)) x30)), 0)
    else
      some (([] : List Int), 14)

def f19 (F : Nat) : Option Bool :=
  Option.bind (f52 F ([4, 2, 1] : List Int)) fun x1 =>
  Option.bind (f25 F x1) fun (x2, x3) =>
  Option.bind (f15 F 5) fun (x4, x5) =>
  Option.bind (f17 F 5 2) fun (x6, x7) =>
  Option.bind (f20 F 10) fun (x8, x9) =>
  Option.bind (f22 F 12) fun (x10, x11) =>
  Option.bind (f52 F ([3, 2] : List Int)) fun x12 =>
  Option.bind (f36 F x12) fun (x13, x14) =>
  Option.bind (f38 F 5 2) fun (x15, x16) =>
  if (x3 != 0) = true then
    none
  else
  if (x5 != 0) = true then
    none
  else
  if (x7 != 0) = true then
    none
  else
  if (x9 != 0) = true then
    none
  else
  if (x11 != 0) = true then
    none
  else
  if (x14 != 0) = true then
    none
  else
  if (x16 != 0) = true then
    none
  else
    Option.bind (f52 F ([3, 3, 3, 1, 1] : List Int)) fun x17 =>
    Option.bind (f27 F x17) fun (x18, x19) =>
    Option.bind (f52 F ([6, 3, 2] : List Int)) fun x20 =>
    Option.bind (f29 F x20) fun (x21, x22) =>
    Option.bind (f52 F ([5, 2] : List Int)) fun x23 =>
    Option.bind (f32 F x23) fun (x24, x25) =>
    Option.bind (f52 F ([5, 4, 4, 1] : List Int)) fun x26 =>
    Option.bind (f40 F x26) fun (x27, x28, x29, x30) =>
    Option.bind (f52 F ([2, 1, 1] : List Int)) fun x31 =>
    Option.bind (f52 F ([1] : List Int)) fun x32 =>
    Option.bind (f42 F 3 x31 x32) fun (x33, x34) =>
    Option.bind (f52 F ([4, 3, 3, 1] : List Int)) fun x35 =>
    Option.bind (f44 F x35) fun (x36, x37) =>
    Option.bind (f52 F ([7, 3, 1] : List Int)) fun x38 =>
    Option.bind (f46 F x38) fun (x39, x40) =>
    Option.bind (f52 F ([4, 3] : List Int)) fun x41 =>
    Option.bind (f32 F x41) fun (x42, x43) =>
    Option.bind (f52 F ([2] : List Int)) fun x44 =>
    Option.bind (f27 F x44) fun (x45, x46) =>
    if (x19 == 0) = true then
      if (x22 == 0) = true then
        if (x25 == 0) = true then
          if (x30 == 0) = true then
            if (x34 == 0) = true then
              if (x37 == 0) = true then
                if (x40 == 0) = true then
                  if (x43 == 12) = true then
                    if (x46 == 14) = true then
                      Option.bind (f52 F ([3, 2, 1, 1] : List Int)) fun x47 =>
                      Option.bind (f31 F x2 x47) fun x48 =>
                      if x48 = true then
                        if (x4 == 7) = true then
                          if (x6 == 3) = true then
                            if (x8 == 10) = true then
                              if (x10 == (-1)) = true then
                                if (x13 == 4) = true then
                                  Option.bind (f52 F ([2, 2, 1] : List Int)) fun x49 =>
                                  Option.bind (f31 F x15 x49) fun x50 =>
                                  if x50 = true then
                                    Option.bind (f52 F ([6, 3, 2] : List Int)) fun x51 =>
                                    Option.bind (f31 F x18 x51) fun x52 =>
                                    if x52 = true then
                                      Option.bind (f52 F ([3, 3, 3, 1, 1] : List Int)) fun x53 =>
                                      Option.bind (f31 F x21 x53) fun x54 =>
                                      if x54 = true then
                                        Option.bind (f52 F ([4, 2, 1] : List Int)) fun x55 =>
                                        Option.bind (f31 F x24 x55) fun x56 =>
                                        if x56 = true then
                                          if (x27 == 3) = true then
                                            Option.bind (f52 F ([2, 1, 1] : List Int)) fun x57 =>
                                            Option.bind (f31 F x28 x57) fun x58 =>
                                            if x58 = true then
                                              Option.bind (f52 F ([1] : List Int)) fun x59 =>
                                              Option.bind (f31 F x29 x59) fun x60 =>
                                              if x60 = true then
                                                Option.bind (f52 F ([5, 4, 4, 1] : List Int)) fun x61 =>
                                                Option.bind (f31 F x33 x61) fun x62 =>
                                                if x62 = true then
                                                  Option.bind (f52 F ([7, 3, 1] : List Int)) fun x63 =>
                                                  Option.bind (f31 F x36 x63) fun x64 =>
                                                  if x64 = true then
                                                    Option.bind (f52 F ([4, 3, 3, 1] : List Int)) fun x65 =>
                                                    Option.bind (f31 F x39 x65) fun x66 =>
                                                    some x66
                                                  else
                                                    none
                                                else
                                                  none
                                              else
                                                none
                                            else
                                              none
                                          else
                                            none
                                        else
                                          none
                                      else
                                        none
                                    else
                                      none
                                  else
                                    none
                                else
                                  none
                              else
                                none
                            else
                              none
                          else
                            none
                        else
                          none
                      else
                        none
                    else
                      none
                  else
                    none
                else
                  none
              else
                none
            else
              none
          else
            none
        else
          none
      else
        none
    else
      none

def f13_r3 (F : Nat) (x2 : Int) (x3 x4 x5 : List Int) (x6 : Int) (x7 x8 : List Int) (x9 : Int) : Option Bool :=
  if (x9 != 0) = true then
    some true
  else
  if (decide (x6 < 0)) = true then
    some true
  else
  if (decide (x6 > ((List.length x5 : Nat) : Int))) = true then
    some true
  else
  if (decide (((List.length x7 : Nat) : Int) > x6)) = true then
    some true
  else
  if (decide (x6 > 0)) = true then
    Option.bind (at? x5 (w64 (x6 - 1))) fun x10 =>
    if (decide (x10 < x6)) = true then
      some true
    else
    if (decide (x6 < ((List.length x5 : Nat) : Int))) = true then
      Option.bind (at? x5 x6) fun x11 =>
      if (decide (x11 > x6)) = true then
        some true
      else
        req ((0 : Int) ≤ x6 ∧ (x6 : Int) ≤ ((List.length x5 : Nat) : Int) ∧ (((List.length x5 : Nat) : Int) : Int) ≤ ((List.length x5 : Nat) : Int)) <|
        Option.bind (f31 F x8 (List.drop (Int.toNat x6) (List.take (List.length x5) x5))) fun x12 =>
        some (!x12)
    else
      req ((0 : Int) ≤ x6 ∧ (x6 : Int) ≤ ((List.length x5 : Nat) : Int) ∧ (((List.length x5 : Nat) : Int) : Int) ≤ ((List.length x5 : Nat) : Int)) <|
      Option.bind (f31 F x8 (List.drop (Int.toNat x6) (List.take (List.length x5) x5))) fun x13 =>
      some (!x13)
  else
  if (decide (x6 < ((List.length x5 : Nat) : Int))) = true then
    Option.bind (at? x5 x6) fun x14 =>
    if (decide (x14 > x6)) = true then
      some true
    else
      req ((0 : Int) ≤ x6 ∧ (x6 : Int) ≤ ((List.length x5 : Nat) : Int) ∧ (((List.length x5 : Nat) : Int) : Int) ≤ ((List.length x5 : Nat) : Int)) <|
      Option.bind (f31 F x8 (List.drop (Int.toNat x6) (List.take (List.length x5) x5))) fun x15 =>
      some (!x15)
  else
    req ((0 : Int) ≤ x6 ∧ (x6 : Int) ≤ ((List.length x5 : Nat) : Int) ∧ (((List.length x5 : Nat) : Int) : Int) ≤ ((List.length x5 : Nat) : Int)) <|
    Option.bind (f31 F x8 (List.drop (Int.toNat x6) (List.take (List.length x5) x5))) fun x16 =>
    some (!x16)
def f13_p5 (F : Nat) (x2 : Int) (x3 x4 x5 : List Int) (x6 : Int) (x7 x8 : List Int) (x18 : Int) : Option Int :=
  if (decide (x18 < ((List.length x7 : Nat) : Int))) = true then
    Option.bind (at? x7 x18) fun x19 =>
    some x19
  else
    some 0
inductive f13_p2_R where
  | c0
  | c1
def f13_p2 (F : Nat) (x2 : Int) (x3 x4 x5 : List Int) (x6 : Int) (x7 x8 : List Int) : Nat → Int → Option f13_p2_R
  | 0, _ => none
  | k + 1, x18 =>
    if (decide (x18 < x6)) = true then
      Option.bind (f13_p5 F x2 x3 x4 x5 x6 x7 x8 x18) fun x20 =>
      Option.bind (at? x5 x18) fun x21 =>
      if (x21 != (w64 (x6 + x20))) = true then
        some .c0
      else
      if (decide (x18 < ((List.length x7 : Nat) : Int))) = true then
        if (decide (x20 < 1)) = true then
          some .c0
        else
          f13_p2 F x2 x3 x4 x5 x6 x7 x8 k (w64 (x18 + 1))
      else
        f13_p2 F x2 x3 x4 x5 x6 x7 x8 k (w64 (x18 + 1))
    else
      some .c1
def f13_r27 (F : Nat) (x2 : Int) (x37 x38 x39 : List Int) (x40 : Int) : Option Bool :=
  if (decide (((List.length x37 : Nat) : Int) > (Int.tmod (w64 (x2)) 6))) = true then
    some true
  else
  if (decide (((List.length x38 : Nat) : Int) > 0)) = true then
    Option.bind (at? x38 0) fun x41 =>
    some (decide (x41 > (Int.tmod (w64 (x2)) 6)))
  else
    some false
def f13_p10 (F : Nat) (x2 : Int) (x37 x38 x39 : List Int) (x40 x43 x44 : Int) : Option Int :=
  if (decide ((w64 ((w64 ((w64 ((Int.tmod (w64 (x2)) 6) * (Int.tmod (w64 (x2)) 6))) + x43)) + x44)) > 30)) = true then
    some 3
  else
    some 0
def f13_p9 (F : Nat) (x2 : Int) (x37 x38 x39 : List Int) (x40 : Int) (x42 : Bool) : Option Int :=
  if x42 = true then
    some 5
  else
    Option.bind (f54 F x37) fun x43 =>
    Option.bind (f54 F x38) fun x44 =>
    Option.bind (f13_p10 F x2 x37 x38 x39 x40 x43 x44) fun x45 =>
    some x45
def f13 (F : Nat) (x1 : List Int) (x2 : Int) (x3 x4 : List Int) : Option Bool :=
  Option.bind (f53 F x1 30) fun x5 =>
  Option.bind (f40 F x5) fun (x6, x7, x8, x9) =>
  Option.bind (f13_r3 F x2 x3 x4 x5 x6 x7 x8 x9) fun x17 =>
  if x17 = true then
    none
  else
    Option.bind (f13_p2 F x2 x3 x4 x5 x6 x7 x8 F 0) fun
    | .c0 =>
      none
    | .c1 =>
      Option.bind (f42 F x6 x7 x8) fun (x22, x23) =>
      Option.bind (f25 F x5) fun (x24, x25) =>
      if (x23 != 0) = true then
        none
      else
        Option.bind (f31 F x22 x5) fun x26 =>
        if x26 = true then
          if (x25 != 0) = true then
            none
          else
            Option.bind (f40 F x24) fun (x27, x28, x29, x30) =>
            Option.bind (f25 F x8) fun (x31, x32) =>
            Option.bind (f25 F x7) fun (x33, x34) =>
            if (x30 != 0) = true then
              none
            else
            if (x32 != 0) = true then
              none
            else
            if (x34 != 0) = true then
              none
            else
            if (x27 != x6) = true then
              none
            else
              Option.bind (f31 F x28 x31) fun x35 =>
              if x35 = true then
                Option.bind (f31 F x29 x33) fun x36 =>
                if x36 = true then
                  Option.bind (f53 F x3 9) fun x37 =>
                  Option.bind (f53 F x4 9) fun x38 =>
                  Option.bind (f42 F (Int.tmod (w64 (x2)) 6) x37 x38) fun (x39, x40) =>
                  Option.bind (f13_r27 F x2 x37 x38 x39 x40) fun x42 =>
                  Option.bind (f13_p9 F x2 x37 x38 x39 x40 x42) fun x46 =>
                  if (x40 != x46) = true then
                    none
                  else
                  if (x40 != 0) = true then
                    if (((List.length x39 : Nat) : Int) == 0) = true then
                      Option.bind (f19 F) fun x47 =>
                      some x47
                    else
                      none
                  else
                    Option.bind (f40 F x39) fun (x48, x49, x50, x51) =>
                    if (x51 == 0) = true then
                      if (x48 == (Int.tmod (w64 (x2)) 6)) = true then
                        Option.bind (f31 F x49 x37) fun x52 =>
                        if x52 = true then
                          Option.bind (f31 F x50 x38) fun x53 =>
                          if x53 = true then
                            Option.bind (f19 F) fun x54 =>
                            some x54
                          else
                            none
                        else
                          none
                      else
                        none
                    else
                      none
                else
                  none
              else
                none
        else
          none

end Go.Gh.Bunch
