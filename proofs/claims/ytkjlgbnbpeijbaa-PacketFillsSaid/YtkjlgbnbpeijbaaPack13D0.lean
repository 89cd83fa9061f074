/- Pack13D0: printed by wip/tool/gx.py -/
import Derived.Test.YtkjlgbnbpeijbaaPackA
import Derived.Test.YtkjlgbnbpeijbaaGiC
import Derived.Test.YtkjlgbnbpeijbaaPack13N0
namespace Go.Gh.Pack
set_option linter.unusedVariables false
set_option linter.unusedSimpArgs false
abbrev LL : Type := List (List Int)
abbrev LI : Type := List Int
abbrev LN {α : Type} (l : List α) : Int := ((List.length l : Nat) : Int)
theorem eF {b : Bool} (h : ¬ b = true) : b = false := Bool.eq_false_iff.2 h
theorem sI {α : Type} {a b : α} (h : some a = some b) : a = b := Option.some.inj h
theorem eL {α : Type} {l : List α} {n : Int} (h : (((List.length l : Nat) : Int) == n) = true) : LN l = n := beq_iff_eq.mp h
abbrev pMa : Go.Gh.Ty := .pair (.int .i64) (.pair (.int .i64) (.pair (.int .u8) .unit))
abbrev pMb : Go.Gh.Ty := .pair (.int .i64) (.pair (.int .i64) .unit)
noncomputable section
open Go.Proofs
abbrev oL (l : List Nat) : En := .co (.live l)
abbrev oK (l : List Nat) : En := .co (.keep l)
abbrev oV (n : Int) : En := .v (.ipt (.int .i64) n)
abbrev oP (e : GExit) (s : GS) : En := .lp e s.env s.hp

def f15_M : List Nat := []
def f15_v : Bool → G := fun y0 => (GB y0)
def f15_k0 : Bool → List (Nat × Blk) := fun y0 => []
def f15_k (x1 x2 x3 : LI) : Bool → List (Nat × Blk) := fun y0 => []
def f15_A (x1 x2 x3 : LI) : List G := [(GL x1), (GL x2), (GL x3)]
def f15_K (x1 x2 x3 : LI) : List (Nat × Blk) := []
def f15_C (x1 x2 x3 : LI) (r : Bool) : Prop := CallOK cx 15 (f15_A x1 x2 x3) (f15_K x1 x2 x3) [] (f15_v r) (f15_k x1 x2 x3 r)

def f52_M : List Nat := []
def f52_v : (List Int) → G := fun y0 => (GL y0)
def f52_k0 : (List Int) → List (Nat × Blk) := fun y0 => []
def f52_k (x1 : LI) : (List Int) → List (Nat × Blk) := fun y0 => []
def f52_A (x1 : LI) : List G := [(GL x1)]
def f52_K (x1 : LI) : List (Nat × Blk) := []
def f52_C (x1 : LI) (r : (List Int)) : Prop := CallOK cx 52 (f52_A x1) (f52_K x1) [] (f52_v r) (f52_k x1 r)

def f67_M : List Nat := []
def f67_v : Bool → G := fun y0 => (GB y0)
def f67_k0 : Bool → List (Nat × Blk) := fun y0 => []
def f67_k (x1 x2 x3 : Int) : Bool → List (Nat × Blk) := fun y0 => []
def f67_A (x1 x2 x3 : Int) : List G := [(GI x1), (GI x2), (GI x3)]
def f67_K (x1 x2 x3 : Int) : List (Nat × Blk) := []
def f67_C (x1 x2 x3 : Int) (r : Bool) : Prop := CallOK cx 67 (f67_A x1 x2 x3) (f67_K x1 x2 x3) [] (f67_v r) (f67_k x1 x2 x3 r)

def f26_M : List Nat := []
def f26_p4_H (x1 : LI) (x2 x3 : Int) : GS := ⟨[(3, (GI x2)), (14, (GL x1)), (15, (.r (.at (.int .i64 (LN x1))))), (16, (GI x3))], []⟩
def f26_p4_x : f26_p4_R → GExit := fun
 | .c0 y0 => .ret
 | .c1 => (.exit 1)
def f26_p4_s (x1 : LI) : f26_p4_R → GS := fun
 | .c0 y0 => ⟨[(2, (GI y0))], []⟩
 | .c1 => ⟨[], []⟩
def f26_p4_P (x1 : LI) (x2 x3 : Int) (r : f26_p4_R) : Prop := Lp cx f26_M 30 (part Try.f26 4) (f26_p4_H x1 x2 x3) (f26_p4_x r) (f26_p4_s x1 r)
def f26_v : Int → G := fun y0 => (GI y0)
def f26_k0 : Int → List (Nat × Blk) := fun y0 => []
def f26_k (x1 : LI) : Int → List (Nat × Blk) := fun y0 => []
def f26_A (x1 : LI) : List G := [(GL x1)]
def f26_K (x1 : LI) : List (Nat × Blk) := []
def f26_C (x1 : LI) (r : Int) : Prop := CallOK cx 26 (f26_A x1) (f26_K x1) [] (f26_v r) (f26_k x1 r)

def f90_M : List Nat := []
def f90_p1_H (x3 x4 : Int) : GS := ⟨[(0, (GI x3)), (1, (GI x4))], []⟩
def f90_p1_x : Int → GExit := fun y0 => (.exit 0)
def f90_p1_s : Int → GS := fun y0 => ⟨[(0, (GI y0))], []⟩
def f90_p1_P (x3 x4 : Int) (r : Int) : Prop := Lp cx f90_M 12 (part Try.f90 1) (f90_p1_H x3 x4) (f90_p1_x r) (f90_p1_s r)
def f90_v : Int → G := fun y0 => (GI y0)
def f90_k0 : Int → List (Nat × Blk) := fun y0 => []
def f90_k (x1 x2 : Int) : Int → List (Nat × Blk) := fun y0 => []
def f90_A (x1 x2 : Int) : List G := [(GI x1), (GI x2)]
def f90_K (x1 x2 : Int) : List (Nat × Blk) := []
def f90_C (x1 x2 : Int) (r : Int) : Prop := CallOK cx 90 (f90_A x1 x2) (f90_K x1 x2) [] (f90_v r) (f90_k x1 x2 r)

def f68_M : List Nat := [1]
def f68_p1_H (x1 : LI) (x2 x5 : Int) (x4 : LI) : GS := ⟨[(0, (GL x1)), (1, (GI x2)), (5, (.r (.at (.sl 1 0 (Int.toNat x2))))), (18, (.r (.at (.int .i64 (((Int.toNat x2) : Nat) : Int))))), (19, (GI x5))], [(1, (.gr (.int .i64) 3 x4 true))]⟩
def f68_p1_x : (List Int) → GExit := fun y0 => (.exit 0)
def f68_p1_s (x1 : LI) (x2 : Int) : (List Int) → GS := fun y0 => ⟨[(0, (GL x1)), (1, (GI x2)), (5, (.r (.at (.sl 1 0 (Int.toNat x2)))))], [(1, (.gr (.int .i64) 3 y0 true))]⟩
def f68_p1_P (x1 : LI) (x2 x5 : Int) (x4 : LI) (r : (List Int)) : Prop := Lp cx f68_M 110 (part Try.f68 1) (f68_p1_H x1 x2 x5 x4) (f68_p1_x r) (f68_p1_s x1 x2 r)
def f68_p16_3_H (x2 x56 : Int) (x57 x81 x82 : Int) (x1 : LI) (x55 x80 x83 : Int) (x79 : LI) : GS := ⟨[(1, (GI x2)), (5, (.r (.at (.sl 1 0 (Int.toNat x2))))), (8, (GI x56)), (9, (GI x57)), (11, (GI x81)), (12, (GI x82)), (28, (GL x1)), (29, (.r (.at (.int .i64 (LN x1))))), (30, (GI x55)), (37, (GI x57)), (38, (GI x80)), (64, (.r (.at (.bool (decide (x83 < x81))))))], [(1, (.gr (.int .i64) 3 x79 true))]⟩
def f68_p16_3_x : Int → GExit := fun y0 => .normal
def f68_p16_3_s (x2 x56 : Int) (x57 x81 x82 : Int) (x1 : LI) (x55 x80 x83 : Int) (x79 : LI) : Int → GS := fun y0 => ⟨[(1, (GI x2)), (5, (.r (.at (.sl 1 0 (Int.toNat x2))))), (8, (GI x56)), (9, (GI x57)), (11, (GI y0)), (12, (GI x82)), (28, (GL x1)), (29, (.r (.at (.int .i64 (LN x1))))), (30, (GI x55)), (37, (GI x57)), (38, (GI x80))], [(1, (.gr (.int .i64) 3 x79 true))]⟩
def f68_p16_3_P (x2 x56 : Int) (x57 x81 x82 : Int) (x1 : LI) (x55 x80 x83 : Int) (x79 : LI) (r : Int) : Prop := Ex cx f68_M 110 (part Try.f68 16) (f68_p16_3_H x2 x56 x57 x81 x82 x1 x55 x80 x83 x79) (f68_p16_3_x r) (f68_p16_3_s x2 x56 x57 x81 x82 x1 x55 x80 x83 x79 r)
def f68_p13_3_H (x2 x56 x57 : Int) (x1 : LI) (x55 x80 : Int) (x79 : LI) (x81 x82 : Int) : GS := ⟨[(1, (GI x2)), (5, (.r (.at (.sl 1 0 (Int.toNat x2))))), (8, (GI x56)), (9, (GI x57)), (11, (GI x81)), (12, (GI x82)), (28, (GL x1)), (29, (.r (.at (.int .i64 (LN x1))))), (30, (GI x55)), (37, (GI x57)), (38, (GI x80))], [(1, (.gr (.int .i64) 3 x79 true))]⟩
def f68_p13_3_x : Int → GExit := fun y0 => (.exit 6)
def f68_p13_3_s (x2 x56 x57 : Int) (x1 : LI) (x55 x80 : Int) (x79 : LI) : Int → GS := fun y0 => ⟨[(1, (GI x2)), (5, (.r (.at (.sl 1 0 (Int.toNat x2))))), (8, (GI x56)), (9, (GI x57)), (11, (GI y0)), (28, (GL x1)), (29, (.r (.at (.int .i64 (LN x1))))), (30, (GI x55)), (37, (GI x57)), (38, (GI x80))], [(1, (.gr (.int .i64) 3 x79 true))]⟩
def f68_p13_3_P (x2 x56 x57 : Int) (x1 : LI) (x55 x80 : Int) (x79 : LI) (x81 x82 : Int) (r : Int) : Prop := Lp cx f68_M 110 (part Try.f68 13) (f68_p13_3_H x2 x56 x57 x1 x55 x80 x79 x81 x82) (f68_p13_3_x r) (f68_p13_3_s x2 x56 x57 x1 x55 x80 x79 r)
def f68_p21_7_H (x2 x56 : Int) (x57 x94 x95 : Int) (x1 : LI) (x55 x80 x96 : Int) (x93 : LI) : GS := ⟨[(1, (GI x2)), (5, (.r (.at (.sl 1 0 (Int.toNat x2))))), (8, (GI x56)), (9, (GI x57)), (11, (.r (.at (.int .i64 (w64 (x94 + x56)))))), (13, (GI x95)), (14, (.r (.at (.int .i64 (Int.tmod (w64 (x94 + x56)) x2))))), (28, (GL x1)), (29, (.r (.at (.int .i64 (LN x1))))), (30, (GI x55)), (37, (GI x57)), (38, (GI x80)), (98, (.r (.at (.bool (decide (x96 < (w64 (x94 + x56))))))))], [(1, (.gr (.int .i64) 3 x93 true))]⟩
def f68_p21_7_x : (Int × (List Int)) → GExit := fun (y0, y1) => .normal
def f68_p21_7_s (x2 x56 : Int) (x57 x94 x95 : Int) (x1 : LI) (x55 x80 x96 : Int) (x93 : LI) : (Int × (List Int)) → GS := fun (y0, y1) => ⟨[(1, (GI x2)), (5, (.r (.at (.sl 1 0 (Int.toNat x2))))), (8, (GI x56)), (9, (GI x57)), (11, (GI y0)), (13, (GI x95)), (28, (GL x1)), (29, (.r (.at (.int .i64 (LN x1))))), (30, (GI x55)), (37, (GI x57)), (38, (GI x80))], [(1, (.gr (.int .i64) 3 y1 true))]⟩
def f68_p21_7_P (x2 x56 : Int) (x57 x94 x95 : Int) (x1 : LI) (x55 x80 x96 : Int) (x93 : LI) (r : Int × (List Int)) : Prop := Ex cx f68_M 110 (part Try.f68 21) (f68_p21_7_H x2 x56 x57 x94 x95 x1 x55 x80 x96 x93) (f68_p21_7_x r) (f68_p21_7_s x2 x56 x57 x94 x95 x1 x55 x80 x96 x93 r)
def f68_p18_3_H (x2 x56 x57 : Int) (x1 : LI) (x55 x80 : Int) (x94 x95 : Int) (x93 : LI) : GS := ⟨[(1, (GI x2)), (5, (.r (.at (.sl 1 0 (Int.toNat x2))))), (8, (GI x56)), (9, (GI x57)), (11, (GI x94)), (13, (GI x95)), (28, (GL x1)), (29, (.r (.at (.int .i64 (LN x1))))), (30, (GI x55)), (37, (GI x57)), (38, (GI x80))], [(1, (.gr (.int .i64) 3 x93 true))]⟩
def f68_p18_3_x : (List Int) → GExit := fun y0 => (.exit 8)
def f68_p18_3_s (x2 x56 x57 : Int) (x1 : LI) (x55 x80 : Int) : (List Int) → GS := fun y0 => ⟨[(1, (GI x2)), (5, (.r (.at (.sl 1 0 (Int.toNat x2))))), (8, (GI x56)), (9, (GI x57)), (28, (GL x1)), (29, (.r (.at (.int .i64 (LN x1))))), (30, (GI x55)), (37, (GI x57)), (38, (GI x80))], [(1, (.gr (.int .i64) 3 y0 true))]⟩
def f68_p18_3_P (x2 x56 x57 : Int) (x1 : LI) (x55 x80 : Int) (x94 x95 : Int) (x93 : LI) (r : (List Int)) : Prop := Lp cx f68_M 110 (part Try.f68 18) (f68_p18_3_H x2 x56 x57 x1 x55 x80 x94 x95 x93) (f68_p18_3_x r) (f68_p18_3_s x2 x56 x57 x1 x55 x80 r)
def f68_p9_1_H (x2 x56 x57 : Int) (x1 : LI) (x55 x80 : Int) (x79 : LI) : GS := ⟨[(1, (GI x2)), (5, (.r (.at (.sl 1 0 (Int.toNat x2))))), (8, (GI x56)), (9, (GI x57)), (28, (GL x1)), (29, (.r (.at (.int .i64 (LN x1))))), (30, (GI x55)), (37, (GI x57)), (38, (GI x80))], [(1, (.gr (.int .i64) 3 x79 true))]⟩
def f68_p9_1_x : (List Int) → GExit := fun y0 => (.exit 4)
def f68_p9_1_s (x2 x56 x57 : Int) (x1 : LI) (x55 : Int) : (List Int) → GS := fun y0 => ⟨[(1, (GI x2)), (5, (.r (.at (.sl 1 0 (Int.toNat x2))))), (28, (GL x1)), (29, (.r (.at (.int .i64 (LN x1))))), (30, (GI x55))], [(1, (.gr (.int .i64) 3 y0 true))]⟩
def f68_p9_1_P (x2 x56 x57 : Int) (x1 : LI) (x55 x80 : Int) (x79 : LI) (r : (List Int)) : Prop := Lp cx f68_M 110 (part Try.f68 9) (f68_p9_1_H x2 x56 x57 x1 x55 x80 x79) (f68_p9_1_x r) (f68_p9_1_s x2 x56 x57 x1 x55 r)
def f68_p5_H (x2 : Int) (x1 : LI) (x55 : Int) (x54 : LI) : GS := ⟨[(1, (GI x2)), (5, (.r (.at (.sl 1 0 (Int.toNat x2))))), (28, (GL x1)), (29, (.r (.at (.int .i64 (LN x1))))), (30, (GI x55))], [(1, (.gr (.int .i64) 3 x54 true))]⟩
def f68_p5_x : (List Int) → GExit := fun y0 => (.exit 2)
def f68_p5_s (x2 : Int) (x1 : LI) : (List Int) → GS := fun y0 => ⟨[(5, (.r (.at (.sl 1 0 (Int.toNat x2)))))], [(1, (.gr (.int .i64) 3 y0 true))]⟩
def f68_p5_P (x2 : Int) (x1 : LI) (x55 : Int) (x54 : LI) (r : (List Int)) : Prop := Lp cx f68_M 110 (part Try.f68 5) (f68_p5_H x2 x1 x55 x54) (f68_p5_x r) (f68_p5_s x2 x1 r)
def f68_v : (List Int) → G := fun y0 => (GL y0)
def f68_k0 : (List Int) → List (Nat × Blk) := fun y0 => []
def f68_k (x1 : LI) (x2 : Int) : (List Int) → List (Nat × Blk) := fun y0 => []
def f68_A (x1 : LI) (x2 : Int) : List G := [(GL x1), (GI x2)]
def f68_K (x1 : LI) (x2 : Int) : List (Nat × Blk) := []
def f68_C (x1 : LI) (x2 : Int) (r : (List Int)) : Prop := CallOK cx 68 (f68_A x1 x2) (f68_K x1 x2) [] (f68_v r) (f68_k x1 x2 r)

def f105_M : List Nat := []
def f105_p1_H (x1 : LI) (x2 x3 : Int) : GS := ⟨[(0, (GL x1)), (1, (GI x2)), (7, (.r (.at (.int .i64 (LN x1))))), (8, (GI x3))], []⟩
def f105_p1_x : f105_p1_R → GExit := fun
 | .c0 y0 => .ret
 | .c1 => (.exit 0)
def f105_p1_s (x1 : LI) (x2 : Int) : f105_p1_R → GS := fun
 | .c0 y0 => ⟨[(4, (GI y0))], []⟩
 | .c1 => ⟨[], []⟩
def f105_p1_P (x1 : LI) (x2 x3 : Int) (r : f105_p1_R) : Prop := Lp cx f105_M 19 (part Try.f105 1) (f105_p1_H x1 x2 x3) (f105_p1_x r) (f105_p1_s x1 x2 r)
def f105_v : Int → G := fun y0 => (GI y0)
def f105_k0 : Int → List (Nat × Blk) := fun y0 => []
def f105_k (x1 : LI) (x2 : Int) : Int → List (Nat × Blk) := fun y0 => []
def f105_A (x1 : LI) (x2 : Int) : List G := [(GL x1), (GI x2)]
def f105_K (x1 : LI) (x2 : Int) : List (Nat × Blk) := []
def f105_C (x1 : LI) (x2 : Int) (r : Int) : Prop := CallOK cx 105 (f105_A x1 x2) (f105_K x1 x2) [] (f105_v r) (f105_k x1 x2 r)

def f91_M : List Nat := []
def f91_v : Bool → G := fun y0 => (GB y0)
def f91_k0 : Bool → List (Nat × Blk) := fun y0 => []
def f91_k (x1 : LI) (x2 : Int) : Bool → List (Nat × Blk) := fun y0 => []
def f91_A (x1 : LI) (x2 : Int) : List G := [(GL x1), (GI x2)]
def f91_K (x1 : LI) (x2 : Int) : List (Nat × Blk) := []
def f91_C (x1 : LI) (x2 : Int) (r : Bool) : Prop := CallOK cx 91 (f91_A x1 x2) (f91_K x1 x2) [] (f91_v r) (f91_k x1 x2 r)

def f103_M : List Nat := []
def f103_p0_H (x1 : Int) : GS := ⟨[(0, (.r (.at (.int .u64 x1)))), (2, (.r (.at (.int .i64 0)))), (4, (.r (.at (.bool (decide (x1 ≥ 4294967296))))))], []⟩
def f103_p0_x : (Int × Int) → GExit := fun (y0, y1) => .normal
def f103_p0_s (x1 : Int) : (Int × Int) → GS := fun (y0, y1) => ⟨[(0, (.r (.at (.int .u64 y0)))), (2, (GI y1))], []⟩
def f103_p0_P (x1 : Int) (r : Int × Int) : Prop := Ex cx f103_M 25 (part Try.f103 0) (f103_p0_H x1) (f103_p0_x r) (f103_p0_s x1 r)
def f103_p1_H (x2 x3 : Int) : GS := ⟨[(0, (.r (.at (.int .u64 x2)))), (2, (GI x3)), (8, (.r (.at (.bool (decide (x2 ≥ 65536))))))], []⟩
def f103_p1_x : (Int × Int) → GExit := fun (y0, y1) => .normal
def f103_p1_s (x2 x3 : Int) : (Int × Int) → GS := fun (y0, y1) => ⟨[(0, (.r (.at (.int .u64 y0)))), (2, (GI y1))], []⟩
def f103_p1_P (x2 x3 : Int) (r : Int × Int) : Prop := Ex cx f103_M 25 (part Try.f103 1) (f103_p1_H x2 x3) (f103_p1_x r) (f103_p1_s x2 x3 r)
def f103_p2_H (x4 x5 : Int) : GS := ⟨[(0, (.r (.at (.int .u64 x4)))), (2, (GI x5)), (14, (.r (.at (.bool (decide (x4 ≥ 256))))))], []⟩
def f103_p2_x : (Int × Int) → GExit := fun (y0, y1) => .normal
def f103_p2_s (x4 x5 : Int) : (Int × Int) → GS := fun (y0, y1) => ⟨[(0, (.r (.at (.int .u64 y0)))), (2, (GI y1))], []⟩
def f103_p2_P (x4 x5 : Int) (r : Int × Int) : Prop := Ex cx f103_M 25 (part Try.f103 2) (f103_p2_H x4 x5) (f103_p2_x r) (f103_p2_s x4 x5 r)
def f103_v : Int → G := fun y0 => (GI y0)
def f103_k0 : Int → List (Nat × Blk) := fun y0 => []
def f103_k (x1 : Int) : Int → List (Nat × Blk) := fun y0 => []
def f103_A (x1 : Int) : List G := [(.r (.at (.int .u64 x1)))]
def f103_K (x1 : Int) : List (Nat × Blk) := []
def f103_C (x1 : Int) (r : Int) : Prop := CallOK cx 103 (f103_A x1) (f103_K x1) [] (f103_v r) (f103_k x1 r)

def f84_M : List Nat := []
def f84_v : Int → G := fun y0 => (GI y0)
def f84_k0 : Int → List (Nat × Blk) := fun y0 => []
def f84_k (x1 : Int) : Int → List (Nat × Blk) := fun y0 => []
def f84_A (x1 : Int) : List G := [(.r (.at (.int .u64 x1)))]
def f84_K (x1 : Int) : List (Nat × Blk) := []
def f84_C (x1 : Int) (r : Int) : Prop := CallOK cx 84 (f84_A x1) (f84_K x1) [] (f84_v r) (f84_k x1 r)

def f111_M : List Nat := []
def f111_v : Bool → G := fun y0 => (GB y0)
def f111_k0 : Bool → List (Nat × Blk) := fun y0 => []
def f111_k (x1 : Int) : Bool → List (Nat × Blk) := fun y0 => []
def f111_A (x1 : Int) : List G := [(GI x1)]
def f111_K (x1 : Int) : List (Nat × Blk) := []
def f111_C (x1 : Int) (r : Bool) : Prop := CallOK cx 111 (f111_A x1) (f111_K x1) [] (f111_v r) (f111_k x1 r)

def f99_M : List Nat := []
def f99_v : Bool → G := fun y0 => (GB y0)
def f99_k0 : Bool → List (Nat × Blk) := fun y0 => []
def f99_k (x1 x2 : Int) : Bool → List (Nat × Blk) := fun y0 => []
def f99_A (x1 x2 : Int) : List G := [(GI x1), (GI x2)]
def f99_K (x1 x2 : Int) : List (Nat × Blk) := []
def f99_C (x1 x2 : Int) (r : Bool) : Prop := CallOK cx 99 (f99_A x1 x2) (f99_K x1 x2) [] (f99_v r) (f99_k x1 x2 r)

def f93_M : List Nat := []
def f93_p5_1_H (x1 x2 : Nat) (x3 x4 : Int) (x18 x24 : Int) (x23 : LI) : GS := ⟨[(0, (.r (.at (.sl 2 x1 x2)))), (1, (GI x3)), (2, (GI x4)), (6, (GI x18)), (7, (GI x24))], [(2, (.gr (.int .i64) 3 x23 true))]⟩
def f93_p5_1_x : (List Int) → GExit := fun y0 => (.exit 2)
def f93_p5_1_s (x1 x2 : Nat) (x3 x4 x18 : Int) : (List Int) → GS := fun y0 => ⟨[(0, (.r (.at (.sl 2 x1 x2)))), (1, (GI x3)), (2, (GI x4)), (6, (GI x18))], [(2, (.gr (.int .i64) 3 y0 true))]⟩
def f93_p5_1_P (x1 x2 : Nat) (x3 x4 : Int) (x18 x24 : Int) (x23 : LI) (r : (List Int)) : Prop := Lp cx f93_M 49 (part Try.f93 5) (f93_p5_1_H x1 x2 x3 x4 x18 x24 x23) (f93_p5_1_x r) (f93_p5_1_s x1 x2 x3 x4 x18 r)
def f93_p1_H (x1 x2 : Nat) (x3 x4 x18 : Int) (x17 : LI) : GS := ⟨[(0, (.r (.at (.sl 2 x1 x2)))), (1, (GI x3)), (2, (GI x4)), (6, (GI x18))], [(2, (.gr (.int .i64) 3 x17 true))]⟩
def f93_p1_x : (List Int) → GExit := fun y0 => (.exit 0)
def f93_p1_s (x1 x2 : Nat) (x3 x4 : Int) : (List Int) → GS := fun y0 => ⟨[], [(2, (.gr (.int .i64) 3 y0 true))]⟩
def f93_p1_P (x1 x2 : Nat) (x3 x4 x18 : Int) (x17 : LI) (r : (List Int)) : Prop := Lp cx f93_M 49 (part Try.f93 1) (f93_p1_H x1 x2 x3 x4 x18 x17) (f93_p1_x r) (f93_p1_s x1 x2 x3 x4 r)
def f93_v : (List Int) → G := fun y0 => (.r (.at .unit0))
def f93_k0 : (List Int) → List (Nat × Blk) := fun y0 => [(2, (.gr (.int .i64) 3 y0 true))]
def f93_k (x1 x2 : Nat) (x3 x4 : Int) (x5 : LI) : (List Int) → List (Nat × Blk) := fun y0 => [(2, (.gr (.int .i64) 3 y0 true))]
def f93_A (x1 x2 : Nat) (x3 x4 : Int) (x5 : LI) : List G := [(.r (.at (.sl 2 x1 x2))), (GI x3), (GI x4)]
def f93_K (x1 x2 : Nat) (x3 x4 : Int) (x5 : LI) : List (Nat × Blk) := [(2, (.gr (.int .i64) 3 x5 true))]
def f93_C (x1 x2 : Nat) (x3 x4 : Int) (x5 : LI) (r : (List Int)) : Prop := CallOK cx 93 (f93_A x1 x2 x3 x4 x5) (f93_K x1 x2 x3 x4 x5) [] (f93_v r) (f93_k x1 x2 x3 x4 x5 r)

def f112_M : List Nat := []
def f112_v : (Int × Int × Int) → G := fun (y0, y1, y2) => (.tup [(.at (.int .i64 y0)), (.at (.int .i64 y1))])
def f112_k0 : (Int × Int × Int) → List (Nat × Blk) := fun (y0, y1, y2) => [(3, (.var [.cell (.int .i64 y2)]))]
def f112_k (x1 x2 : Nat) (x3 x4 : Int) (x5 : LI) (x6 : Int) : (Int × Int × Int) → List (Nat × Blk) := fun (y0, y1, y2) => [(3, (.var [.cell (.int .i64 y2)])), (2, (.gr (.int .i64) 3 x5 true))]
def f112_A (x1 x2 : Nat) (x3 x4 : Int) (x5 : LI) (x6 : Int) : List G := [(.r (.at (.sl 2 x1 x2))), (GI x3), (GI x4), (.r (.at (.ptr 3 0 0)))]
def f112_K (x1 x2 : Nat) (x3 x4 : Int) (x5 : LI) (x6 : Int) : List (Nat × Blk) := [(2, (.gr (.int .i64) 3 x5 true)), (3, (.var [.cell (.int .i64 x6)]))]
def f112_C (x1 x2 : Nat) (x3 x4 : Int) (x5 : LI) (x6 : Int) (r : Int × Int × Int) : Prop := CallOK cx 112 (f112_A x1 x2 x3 x4 x5 x6) (f112_K x1 x2 x3 x4 x5 x6) [] (f112_v r) (f112_k x1 x2 x3 x4 x5 x6 r)

def f110_M : List Nat := []
def f110_v : (Int × Int) → G := fun (y0, y1) => (GI y0)
def f110_k0 : (Int × Int) → List (Nat × Blk) := fun (y0, y1) => [(3, (.var [.cell (.int .i64 y1)]))]
def f110_k (x1 x2 : Nat) (x3 x4 x5 : Int) (x6 : LI) (x7 : Int) : (Int × Int) → List (Nat × Blk) := fun (y0, y1) => [(3, (.var [.cell (.int .i64 y1)])), (2, (.gr (.int .i64) 3 x6 true))]
def f110_A (x1 x2 : Nat) (x3 x4 x5 : Int) (x6 : LI) (x7 : Int) : List G := [(.r (.at (.sl 2 x1 x2))), (GI x3), (GI x4), (GI x5), (.r (.at (.ptr 3 0 0)))]
def f110_K (x1 x2 : Nat) (x3 x4 x5 : Int) (x6 : LI) (x7 : Int) : List (Nat × Blk) := [(2, (.gr (.int .i64) 3 x6 true)), (3, (.var [.cell (.int .i64 x7)]))]
def f110_C (x1 x2 : Nat) (x3 x4 x5 : Int) (x6 : LI) (x7 : Int) (r : Int × Int) : Prop := CallOK cx 110 (f110_A x1 x2 x3 x4 x5 x6 x7) (f110_K x1 x2 x3 x4 x5 x6 x7) [] (f110_v r) (f110_k x1 x2 x3 x4 x5 x6 x7 r)

def f96_M : List Nat := [3]
def f96_p1_H (x1 x2 : Nat) (x3 x4 : Int) (x5 : LI) : GS := ⟨[(0, (.r (.at (.sl 2 x1 x2)))), (9, (.r (.at (.ptr 3 0 0)))), (10, (.r (.at (.int .i64 (w64 (x3 + (w64 ((w64 (Int.tdiv (w64 (x4 - x3)) 4)) * 1)))))))), (11, (.r (.at (.int .i64 (w64 (x3 + (w64 ((w64 (Int.tdiv (w64 (x4 - x3)) 4)) * 2)))))))), (12, (.r (.at (.int .i64 (w64 (x3 + (w64 ((w64 (Int.tdiv (w64 (x4 - x3)) 4)) * 3)))))))), (34, (.r (.at (.bool (decide ((w64 (x4 - x3)) ≥ 50))))))], [(2, (.gr (.int .i64) 3 x5 true)), (3, (.var [.cell (.int .i64 0)]))]⟩
def f96_p1_x : Unit → GExit := fun _ => .normal
def f96_p1_s (x1 x2 : Nat) (x3 x4 : Int) (x5 : LI) : Unit → GS := fun _ => ⟨[(0, (.r (.at (.sl 2 x1 x2)))), (9, (.r (.at (.ptr 3 0 0)))), (10, (.r (.at (.int .i64 (w64 (x3 + (w64 ((w64 (Int.tdiv (w64 (x4 - x3)) 4)) * 1)))))))), (11, (.r (.at (.int .i64 (w64 (x3 + (w64 ((w64 (Int.tdiv (w64 (x4 - x3)) 4)) * 2)))))))), (12, (.r (.at (.int .i64 (w64 (x3 + (w64 ((w64 (Int.tdiv (w64 (x4 - x3)) 4)) * 3))))))))], [(2, (.gr (.int .i64) 3 x5 true)), (3, (.var [.cell (.int .i64 0)]))]⟩
def f96_p1_P (x1 x2 : Nat) (x3 x4 : Int) (x5 : LI) (r : Unit) : Prop := Ex cx f96_M 57 (part Try.f96 1) (f96_p1_H x1 x2 x3 x4 x5) (f96_p1_x r) (f96_p1_s x1 x2 x3 x4 x5 r)
def f96_p0_H (x1 x2 : Nat) (x4 x3 : Int) (x5 : LI) : GS := ⟨[(0, (.r (.at (.sl 2 x1 x2)))), (8, (.r (.at (.int .i64 (w64 (x4 - x3)))))), (9, (.r (.at (.ptr 3 0 0)))), (10, (.r (.at (.int .i64 (w64 (x3 + (w64 ((w64 (Int.tdiv (w64 (x4 - x3)) 4)) * 1)))))))), (11, (.r (.at (.int .i64 (w64 (x3 + (w64 ((w64 (Int.tdiv (w64 (x4 - x3)) 4)) * 2)))))))), (12, (.r (.at (.int .i64 (w64 (x3 + (w64 ((w64 (Int.tdiv (w64 (x4 - x3)) 4)) * 3)))))))), (32, (.r (.at (.bool (decide ((w64 (x4 - x3)) ≥ 8))))))], [(2, (.gr (.int .i64) 3 x5 true)), (3, (.var [.cell (.int .i64 0)]))]⟩
def f96_p0_x : (Int × Int) → GExit := fun (y0, y1) => .normal
def f96_p0_s (x1 x2 : Nat) (x4 x3 : Int) (x5 : LI) : (Int × Int) → GS := fun (y0, y1) => ⟨[(9, (.r (.at (.ptr 3 0 0)))), (11, (GI y0))], [(2, (.gr (.int .i64) 3 x5 true)), (3, (.var [.cell (.int .i64 y1)]))]⟩
def f96_p0_P (x1 x2 : Nat) (x4 x3 : Int) (x5 : LI) (r : Int × Int) : Prop := Ex cx f96_M 57 (part Try.f96 0) (f96_p0_H x1 x2 x4 x3 x5) (f96_p0_x r) (f96_p0_s x1 x2 x4 x3 x5 r)
def f96_v : (Int × Int) → G := fun (y0, y1) => (.tup [(.at (.int .i64 y0)), (.at (.int .i64 y1))])
def f96_k0 : (Int × Int) → List (Nat × Blk) := fun (y0, y1) => []
def f96_k (x1 x2 : Nat) (x3 x4 : Int) (x5 : LI) : (Int × Int) → List (Nat × Blk) := fun (y0, y1) => [(2, (.gr (.int .i64) 3 x5 true))]
def f96_A (x1 x2 : Nat) (x3 x4 : Int) (x5 : LI) : List G := [(.r (.at (.sl 2 x1 x2))), (GI x3), (GI x4)]
def f96_K (x1 x2 : Nat) (x3 x4 : Int) (x5 : LI) : List (Nat × Blk) := [(2, (.gr (.int .i64) 3 x5 true))]
def f96_C (x1 x2 : Nat) (x3 x4 : Int) (x5 : LI) (r : Int × Int) : Prop := CallOK cx 96 (f96_A x1 x2 x3 x4 x5) (f96_K x1 x2 x3 x4 x5) [] (f96_v r) (f96_k x1 x2 x3 x4 x5 r)

def f101_M : List Nat := []
def f101_p1_H (x1 x2 : Nat) (x3 x4 : Int) (x6 : LI) (x7 x5 : Int) (x8 x9 : Int) : GS := ⟨[(0, (.r (.at (.sl 2 x1 x2)))), (1, (GI x3)), (10, (GI x9)), (11, (.r (.at (.int .i64 (w64 (x4 - 1))))))], [(2, (.gr (.int .i64) 3 ((List.set (List.set x6 (x1 + (Int.toNat x3)) x7) (x1 + (Int.toNat x5)) x8) : List Int) true))]⟩
def f101_p1_x : Int → GExit := fun y0 => (.exit 0)
def f101_p1_s (x1 x2 : Nat) (x3 x4 : Int) (x6 : LI) (x7 x5 x8 : Int) : Int → GS := fun y0 => ⟨[(0, (.r (.at (.sl 2 x1 x2)))), (1, (GI x3)), (10, (GI y0)), (11, (.r (.at (.int .i64 (w64 (x4 - 1))))))], [(2, (.gr (.int .i64) 3 ((List.set (List.set x6 (x1 + (Int.toNat x3)) x7) (x1 + (Int.toNat x5)) x8) : List Int) true))]⟩
def f101_p1_P (x1 x2 : Nat) (x3 x4 : Int) (x6 : LI) (x7 x5 : Int) (x8 x9 : Int) (r : Int) : Prop := Lp cx f101_M 168 (part Try.f101 1) (f101_p1_H x1 x2 x3 x4 x6 x7 x5 x8 x9) (f101_p1_x r) (f101_p1_s x1 x2 x3 x4 x6 x7 x5 x8 r)
def f101_p5_H (x1 x2 : Nat) (x3 x13 : Int) (x6 : LI) (x7 x5 : Int) (x8 x14 : Int) : GS := ⟨[(0, (.r (.at (.sl 2 x1 x2)))), (1, (GI x3)), (10, (GI x13)), (11, (GI x14))], [(2, (.gr (.int .i64) 3 ((List.set (List.set x6 (x1 + (Int.toNat x3)) x7) (x1 + (Int.toNat x5)) x8) : List Int) true))]⟩
def f101_p5_x : Int → GExit := fun y0 => (.exit 2)
def f101_p5_s (x1 x2 : Nat) (x3 x13 : Int) (x6 : LI) (x7 x5 x8 : Int) : Int → GS := fun y0 => ⟨[(0, (.r (.at (.sl 2 x1 x2)))), (1, (GI x3)), (10, (GI x13)), (11, (GI y0))], [(2, (.gr (.int .i64) 3 ((List.set (List.set x6 (x1 + (Int.toNat x3)) x7) (x1 + (Int.toNat x5)) x8) : List Int) true))]⟩
def f101_p5_P (x1 x2 : Nat) (x3 x13 : Int) (x6 : LI) (x7 x5 : Int) (x8 x14 : Int) (r : Int) : Prop := Lp cx f101_M 168 (part Try.f101 5) (f101_p5_H x1 x2 x3 x13 x6 x7 x5 x8 x14) (f101_p5_x r) (f101_p5_s x1 x2 x3 x13 x6 x7 x5 x8 r)
def f101_p13_1_H (x1 x2 : Nat) (x3 x39 : Int) (x37 : LI) (x40 : Int) : GS := ⟨[(0, (.r (.at (.sl 2 x1 x2)))), (1, (GI x3)), (10, (GI x40)), (11, (GI x39))], [(2, (.gr (.int .i64) 3 x37 true))]⟩
def f101_p13_1_x : Int → GExit := fun y0 => (.exit 6)
def f101_p13_1_s (x1 x2 : Nat) (x3 x39 : Int) (x37 : LI) : Int → GS := fun y0 => ⟨[(0, (.r (.at (.sl 2 x1 x2)))), (1, (GI x3)), (10, (GI y0)), (11, (GI x39))], [(2, (.gr (.int .i64) 3 x37 true))]⟩
def f101_p13_1_P (x1 x2 : Nat) (x3 x39 : Int) (x37 : LI) (x40 : Int) (r : Int) : Prop := Lp cx f101_M 168 (part Try.f101 13) (f101_p13_1_H x1 x2 x3 x39 x37 x40) (f101_p13_1_x r) (f101_p13_1_s x1 x2 x3 x39 x37 r)
def f101_p17_1_H (x1 x2 : Nat) (x3 x44 : Int) (x37 : LI) (x45 : Int) : GS := ⟨[(0, (.r (.at (.sl 2 x1 x2)))), (1, (GI x3)), (10, (GI x44)), (11, (GI x45))], [(2, (.gr (.int .i64) 3 x37 true))]⟩
def f101_p17_1_x : Int → GExit := fun y0 => (.exit 8)
def f101_p17_1_s (x1 x2 : Nat) (x3 x44 : Int) (x37 : LI) : Int → GS := fun y0 => ⟨[(0, (.r (.at (.sl 2 x1 x2)))), (1, (GI x3)), (10, (GI x44)), (11, (GI y0))], [(2, (.gr (.int .i64) 3 x37 true))]⟩
def f101_p17_1_P (x1 x2 : Nat) (x3 x44 : Int) (x37 : LI) (x45 : Int) (r : Int) : Prop := Lp cx f101_M 168 (part Try.f101 17) (f101_p17_1_H x1 x2 x3 x44 x37 x45) (f101_p17_1_x r) (f101_p17_1_s x1 x2 x3 x44 x37 r)
def f101_p10_H (x1 x2 : Nat) (x3 x38 x39 : Int) (x37 : LI) : GS := ⟨[(0, (.r (.at (.sl 2 x1 x2)))), (1, (GI x3)), (10, (GI x38)), (11, (GI x39))], [(2, (.gr (.int .i64) 3 x37 true))]⟩
def f101_p10_x : (Int × (List Int)) → GExit := fun (y0, y1) => (.exit 4)
def f101_p10_s (x1 x2 : Nat) (x3 : Int) : (Int × (List Int)) → GS := fun (y0, y1) => ⟨[(0, (.r (.at (.sl 2 x1 x2)))), (1, (GI x3)), (11, (GI y0))], [(2, (.gr (.int .i64) 3 y1 true))]⟩
def f101_p10_P (x1 x2 : Nat) (x3 x38 x39 : Int) (x37 : LI) (r : Int × (List Int)) : Prop := Lp cx f101_M 168 (part Try.f101 10) (f101_p10_H x1 x2 x3 x38 x39 x37) (f101_p10_x r) (f101_p10_s x1 x2 x3 r)
def f101_v : (Int × Bool × (List Int)) → G := fun (y0, y1, y2) => (.tup [(.at (.int .i64 y0)), (.at (.bool y1))])
def f101_k0 : (Int × Bool × (List Int)) → List (Nat × Blk) := fun (y0, y1, y2) => [(2, (.gr (.int .i64) 3 y2 true))]
def f101_k (x1 x2 : Nat) (x3 x4 x5 : Int) (x6 : LI) : (Int × Bool × (List Int)) → List (Nat × Blk) := fun (y0, y1, y2) => [(2, (.gr (.int .i64) 3 y2 true))]
def f101_A (x1 x2 : Nat) (x3 x4 x5 : Int) (x6 : LI) : List G := [(.r (.at (.sl 2 x1 x2))), (GI x3), (GI x4), (GI x5)]
def f101_K (x1 x2 : Nat) (x3 x4 x5 : Int) (x6 : LI) : List (Nat × Blk) := [(2, (.gr (.int .i64) 3 x6 true))]
def f101_C (x1 x2 : Nat) (x3 x4 x5 : Int) (x6 : LI) (r : Int × Bool × (List Int)) : Prop := CallOK cx 101 (f101_A x1 x2 x3 x4 x5 x6) (f101_K x1 x2 x3 x4 x5 x6) [] (f101_v r) (f101_k x1 x2 x3 x4 x5 x6 r)

def f83_M : List Nat := []
def f83_p5_1_H (x1 x2 : Nat) (x28 x29 x30 : Int) (x31 x32 : Bool) (x27 : LI) : GS := ⟨[(0, (.r (.at (.sl 2 x1 x2)))), (1, (GI x28)), (2, (GI x29)), (3, (GI x30)), (8, (GB x31)), (9, (GB x32)), (10, (.r (.at (.int .i64 (w64 (x29 - x28)))))), (35, (.r (.at (.bool (!x31)))))], [(2, (.gr (.int .i64) 3 x27 true))]⟩
def f83_p5_1_x : Unit → GExit := fun _ => .normal
def f83_p5_1_s (x1 x2 : Nat) (x28 x29 x30 : Int) (x31 x32 : Bool) (x27 : LI) : Unit → GS := fun _ => ⟨[(0, (.r (.at (.sl 2 x1 x2)))), (1, (GI x28)), (2, (GI x29)), (3, (GI x30)), (8, (GB x31)), (9, (GB x32)), (10, (.r (.at (.int .i64 (w64 (x29 - x28))))))], [(2, (.gr (.int .i64) 3 x27 true))]⟩
def f83_p5_1_P (x1 x2 : Nat) (x28 x29 x30 : Int) (x31 x32 : Bool) (x27 : LI) (r : Unit) : Prop := Ex cx f83_M 134 (part Try.f83 5) (f83_p5_1_H x1 x2 x28 x29 x30 x31 x32 x27) (f83_p5_1_x r) (f83_p5_1_s x1 x2 x28 x29 x30 x31 x32 x27 r)
def f83_p6_1_H (x1 x2 : Nat) (x28 x29 x30 : Int) (x31 x32 : Bool) (x34 x35 : Int) (x27 : LI) : GS := ⟨[(0, (.r (.at (.sl 2 x1 x2)))), (1, (GI x28)), (2, (GI x29)), (3, (GI x30)), (8, (GB x31)), (9, (GB x32)), (10, (.r (.at (.int .i64 (w64 (x29 - x28)))))), (11, (GI x34)), (12, (GI x35)), (50, (.r (.at (.bool (x35 == 2)))))], [(2, (.gr (.int .i64) 3 x27 true))]⟩
def f83_p6_1_x : Unit → GExit := fun _ => .normal
def f83_p6_1_s (x1 x2 : Nat) (x28 x29 x30 : Int) (x31 x32 : Bool) (x34 x35 : Int) (x27 : LI) : Unit → GS := fun _ => ⟨[(0, (.r (.at (.sl 2 x1 x2)))), (1, (GI x28)), (2, (GI x29)), (3, (GI x30)), (8, (GB x31)), (9, (GB x32)), (10, (.r (.at (.int .i64 (w64 (x29 - x28)))))), (11, (GI x34)), (12, (GI x35))], [(2, (.gr (.int .i64) 3 x27 true))]⟩
def f83_p6_1_P (x1 x2 : Nat) (x28 x29 x30 : Int) (x31 x32 : Bool) (x34 x35 : Int) (x27 : LI) (r : Unit) : Prop := Ex cx f83_M 134 (part Try.f83 6) (f83_p6_1_H x1 x2 x28 x29 x30 x31 x32 x34 x35 x27) (f83_p6_1_x r) (f83_p6_1_s x1 x2 x28 x29 x30 x31 x32 x34 x35 x27 r)
def f83_p7_1_H (x1 x2 : Nat) (x28 x29 x30 : Int) (x31 x32 : Bool) (x34 x35 : Int) (x27 : LI) : GS := ⟨[(0, (.r (.at (.sl 2 x1 x2)))), (1, (GI x28)), (2, (GI x29)), (3, (GI x30)), (8, (GB x31)), (9, (GB x32)), (10, (.r (.at (.int .i64 (w64 (x29 - x28)))))), (11, (GI x34)), (68, (.r (.at (.bool (x35 == 1)))))], [(2, (.gr (.int .i64) 3 x27 true))]⟩
def f83_p7_1_x : Unit → GExit := fun _ => .normal
def f83_p7_1_s (x1 x2 : Nat) (x28 x29 x30 : Int) (x31 x32 : Bool) (x34 x35 : Int) (x27 : LI) : Unit → GS := fun _ => ⟨[(0, (.r (.at (.sl 2 x1 x2)))), (1, (GI x28)), (2, (GI x29)), (3, (GI x30)), (8, (GB x31)), (9, (GB x32)), (10, (.r (.at (.int .i64 (w64 (x29 - x28)))))), (11, (GI x34))], [(2, (.gr (.int .i64) 3 x27 true))]⟩
def f83_p7_1_P (x1 x2 : Nat) (x28 x29 x30 : Int) (x31 x32 : Bool) (x34 x35 : Int) (x27 : LI) (r : Unit) : Prop := Ex cx f83_M 134 (part Try.f83 7) (f83_p7_1_H x1 x2 x28 x29 x30 x31 x32 x34 x35 x27) (f83_p7_1_x r) (f83_p7_1_s x1 x2 x28 x29 x30 x31 x32 x34 x35 x27 r)
def f83_p10_1_H (x1 x2 : Nat) (x28 x29 x30 : Int) (x40 : Bool) (x39 : Int) (x41 : LI) : GS := ⟨[(0, (.r (.at (.sl 2 x1 x2)))), (1, (GI x28)), (2, (GI x29)), (3, (GI x30)), (9, (GB x40)), (14, (GI x39)), (16, (.r (.at (.int .i64 (w64 (x39 - x28)))))), (17, (.r (.at (.int .i64 (w64 (x29 - x39)))))), (18, (.r (.at (.int .i64 (w64 (Int.tdiv (w64 (x29 - x28)) 8)))))), (113, (.r (.at (.bool (decide ((w64 (x39 - x28)) < (w64 (x29 - x39))))))))], [(2, (.gr (.int .i64) 3 x41 true))]⟩
def f83_p10_1_x : (Int × Int × Bool × (List Int)) → GExit := fun (y0, y1, y2, y3) => .normal
def f83_p10_1_s (x1 x2 : Nat) (x28 x29 x30 : Int) (x40 : Bool) (x39 : Int) (x41 : LI) : (Int × Int × Bool × (List Int)) → GS := fun (y0, y1, y2, y3) => ⟨[(0, (.r (.at (.sl 2 x1 x2)))), (1, (GI y0)), (2, (GI y1)), (3, (GI x30)), (8, (GB y2)), (9, (GB x40))], [(2, (.gr (.int .i64) 3 y3 true))]⟩
def f83_p10_1_P (x1 x2 : Nat) (x28 x29 x30 : Int) (x40 : Bool) (x39 : Int) (x41 : LI) (r : Int × Int × Bool × (List Int)) : Prop := Ex cx f83_M 134 (part Try.f83 10) (f83_p10_1_H x1 x2 x28 x29 x30 x40 x39 x41) (f83_p10_1_x r) (f83_p10_1_s x1 x2 x28 x29 x30 x40 x39 x41 r)
def f83_p10_2_H (x1 x2 : Nat) (x28 x29 x30 : Int) (x49 : Bool) (x48 : Int) (x50 : LI) : GS := ⟨[(0, (.r (.at (.sl 2 x1 x2)))), (1, (GI x28)), (2, (GI x29)), (3, (GI x30)), (9, (GB x49)), (14, (GI x48)), (16, (.r (.at (.int .i64 (w64 (x48 - x28)))))), (17, (.r (.at (.int .i64 (w64 (x29 - x48)))))), (18, (.r (.at (.int .i64 (w64 (Int.tdiv (w64 (x29 - x28)) 8)))))), (113, (.r (.at (.bool (decide ((w64 (x48 - x28)) < (w64 (x29 - x48))))))))], [(2, (.gr (.int .i64) 3 x50 true))]⟩
def f83_p10_2_x : (Int × Int × Bool × (List Int)) → GExit := fun (y0, y1, y2, y3) => .normal
def f83_p10_2_s (x1 x2 : Nat) (x28 x29 x30 : Int) (x49 : Bool) (x48 : Int) (x50 : LI) : (Int × Int × Bool × (List Int)) → GS := fun (y0, y1, y2, y3) => ⟨[(0, (.r (.at (.sl 2 x1 x2)))), (1, (GI y0)), (2, (GI y1)), (3, (GI x30)), (8, (GB y2)), (9, (GB x49))], [(2, (.gr (.int .i64) 3 y3 true))]⟩
def f83_p10_2_P (x1 x2 : Nat) (x28 x29 x30 : Int) (x49 : Bool) (x48 : Int) (x50 : LI) (r : Int × Int × Bool × (List Int)) : Prop := Ex cx f83_M 134 (part Try.f83 10) (f83_p10_2_H x1 x2 x28 x29 x30 x49 x48 x50) (f83_p10_2_x r) (f83_p10_2_s x1 x2 x28 x29 x30 x49 x48 x50 r)
def f83_p10_3_H (x1 x2 : Nat) (x28 x29 x30 : Int) (x61 : Bool) (x60 : Int) (x62 : LI) : GS := ⟨[(0, (.r (.at (.sl 2 x1 x2)))), (1, (GI x28)), (2, (GI x29)), (3, (GI x30)), (9, (GB x61)), (14, (GI x60)), (16, (.r (.at (.int .i64 (w64 (x60 - x28)))))), (17, (.r (.at (.int .i64 (w64 (x29 - x60)))))), (18, (.r (.at (.int .i64 (w64 (Int.tdiv (w64 (x29 - x28)) 8)))))), (113, (.r (.at (.bool (decide ((w64 (x60 - x28)) < (w64 (x29 - x60))))))))], [(2, (.gr (.int .i64) 3 x62 true))]⟩
def f83_p10_3_x : (Int × Int × Bool × (List Int)) → GExit := fun (y0, y1, y2, y3) => .normal
def f83_p10_3_s (x1 x2 : Nat) (x28 x29 x30 : Int) (x61 : Bool) (x60 : Int) (x62 : LI) : (Int × Int × Bool × (List Int)) → GS := fun (y0, y1, y2, y3) => ⟨[(0, (.r (.at (.sl 2 x1 x2)))), (1, (GI y0)), (2, (GI y1)), (3, (GI x30)), (8, (GB y2)), (9, (GB x61))], [(2, (.gr (.int .i64) 3 y3 true))]⟩
def f83_p10_3_P (x1 x2 : Nat) (x28 x29 x30 : Int) (x61 : Bool) (x60 : Int) (x62 : LI) (r : Int × Int × Bool × (List Int)) : Prop := Ex cx f83_M 134 (part Try.f83 10) (f83_p10_3_H x1 x2 x28 x29 x30 x61 x60 x62) (f83_p10_3_x r) (f83_p10_3_s x1 x2 x28 x29 x30 x61 x60 x62 r)
def f83_p10_4_H (x1 x2 : Nat) (x28 x29 x30 : Int) (x70 : Bool) (x69 : Int) (x71 : LI) : GS := ⟨[(0, (.r (.at (.sl 2 x1 x2)))), (1, (GI x28)), (2, (GI x29)), (3, (GI x30)), (9, (GB x70)), (14, (GI x69)), (16, (.r (.at (.int .i64 (w64 (x69 - x28)))))), (17, (.r (.at (.int .i64 (w64 (x29 - x69)))))), (18, (.r (.at (.int .i64 (w64 (Int.tdiv (w64 (x29 - x28)) 8)))))), (113, (.r (.at (.bool (decide ((w64 (x69 - x28)) < (w64 (x29 - x69))))))))], [(2, (.gr (.int .i64) 3 x71 true))]⟩
def f83_p10_4_x : (Int × Int × Bool × (List Int)) → GExit := fun (y0, y1, y2, y3) => .normal
def f83_p10_4_s (x1 x2 : Nat) (x28 x29 x30 : Int) (x70 : Bool) (x69 : Int) (x71 : LI) : (Int × Int × Bool × (List Int)) → GS := fun (y0, y1, y2, y3) => ⟨[(0, (.r (.at (.sl 2 x1 x2)))), (1, (GI y0)), (2, (GI y1)), (3, (GI x30)), (8, (GB y2)), (9, (GB x70))], [(2, (.gr (.int .i64) 3 y3 true))]⟩
def f83_p10_4_P (x1 x2 : Nat) (x28 x29 x30 : Int) (x70 : Bool) (x69 : Int) (x71 : LI) (r : Int × Int × Bool × (List Int)) : Prop := Ex cx f83_M 134 (part Try.f83 10) (f83_p10_4_H x1 x2 x28 x29 x30 x70 x69 x71) (f83_p10_4_x r) (f83_p10_4_s x1 x2 x28 x29 x30 x70 x69 x71 r)
def f83_p10_5_H (x1 x2 : Nat) (x28 x29 x30 : Int) (x82 : Bool) (x81 : Int) (x83 : LI) : GS := ⟨[(0, (.r (.at (.sl 2 x1 x2)))), (1, (GI x28)), (2, (GI x29)), (3, (GI x30)), (9, (GB x82)), (14, (GI x81)), (16, (.r (.at (.int .i64 (w64 (x81 - x28)))))), (17, (.r (.at (.int .i64 (w64 (x29 - x81)))))), (18, (.r (.at (.int .i64 (w64 (Int.tdiv (w64 (x29 - x28)) 8)))))), (113, (.r (.at (.bool (decide ((w64 (x81 - x28)) < (w64 (x29 - x81))))))))], [(2, (.gr (.int .i64) 3 x83 true))]⟩
def f83_p10_5_x : (Int × Int × Bool × (List Int)) → GExit := fun (y0, y1, y2, y3) => .normal
def f83_p10_5_s (x1 x2 : Nat) (x28 x29 x30 : Int) (x82 : Bool) (x81 : Int) (x83 : LI) : (Int × Int × Bool × (List Int)) → GS := fun (y0, y1, y2, y3) => ⟨[(0, (.r (.at (.sl 2 x1 x2)))), (1, (GI y0)), (2, (GI y1)), (3, (GI x30)), (8, (GB y2)), (9, (GB x82))], [(2, (.gr (.int .i64) 3 y3 true))]⟩
def f83_p10_5_P (x1 x2 : Nat) (x28 x29 x30 : Int) (x82 : Bool) (x81 : Int) (x83 : LI) (r : Int × Int × Bool × (List Int)) : Prop := Ex cx f83_M 134 (part Try.f83 10) (f83_p10_5_H x1 x2 x28 x29 x30 x82 x81 x83) (f83_p10_5_x r) (f83_p10_5_s x1 x2 x28 x29 x30 x82 x81 x83 r)
def f83_p10_6_H (x1 x2 : Nat) (x28 x29 x30 : Int) (x91 : Bool) (x90 : Int) (x92 : LI) : GS := ⟨[(0, (.r (.at (.sl 2 x1 x2)))), (1, (GI x28)), (2, (GI x29)), (3, (GI x30)), (9, (GB x91)), (14, (GI x90)), (16, (.r (.at (.int .i64 (w64 (x90 - x28)))))), (17, (.r (.at (.int .i64 (w64 (x29 - x90)))))), (18, (.r (.at (.int .i64 (w64 (Int.tdiv (w64 (x29 - x28)) 8)))))), (113, (.r (.at (.bool (decide ((w64 (x90 - x28)) < (w64 (x29 - x90))))))))], [(2, (.gr (.int .i64) 3 x92 true))]⟩
def f83_p10_6_x : (Int × Int × Bool × (List Int)) → GExit := fun (y0, y1, y2, y3) => .normal
def f83_p10_6_s (x1 x2 : Nat) (x28 x29 x30 : Int) (x91 : Bool) (x90 : Int) (x92 : LI) : (Int × Int × Bool × (List Int)) → GS := fun (y0, y1, y2, y3) => ⟨[(0, (.r (.at (.sl 2 x1 x2)))), (1, (GI y0)), (2, (GI y1)), (3, (GI x30)), (8, (GB y2)), (9, (GB x91))], [(2, (.gr (.int .i64) 3 y3 true))]⟩
def f83_p10_6_P (x1 x2 : Nat) (x28 x29 x30 : Int) (x91 : Bool) (x90 : Int) (x92 : LI) (r : Int × Int × Bool × (List Int)) : Prop := Ex cx f83_M 134 (part Try.f83 10) (f83_p10_6_H x1 x2 x28 x29 x30 x91 x90 x92) (f83_p10_6_x r) (f83_p10_6_s x1 x2 x28 x29 x30 x91 x90 x92 r)
def f83_p1_7_H (x1 x2 : Nat) (x28 x29 x30 : Int) (x31 x32 : Bool) (x27 : LI) : GS := ⟨[(0, (.r (.at (.sl 2 x1 x2)))), (1, (GI x28)), (2, (GI x29)), (3, (GI x30)), (8, (GB x31)), (9, (GB x32))], [(2, (.gr (.int .i64) 3 x27 true))]⟩
def f83_p1_7_x : (List Int) → GExit := fun y0 => .ret
def f83_p1_7_s (x1 x2 : Nat) : (List Int) → GS := fun y0 => ⟨[], [(2, (.gr (.int .i64) 3 y0 true))]⟩
def f83_p1_7_P (x1 x2 : Nat) (x28 x29 x30 : Int) (x31 x32 : Bool) (x27 : LI) (r : (List Int)) : Prop := Lp cx f83_M 134 (part Try.f83 1) (f83_p1_7_H x1 x2 x28 x29 x30 x31 x32 x27) (f83_p1_7_x r) (f83_p1_7_s x1 x2 r)
def f83_v : (List Int) → G := fun y0 => (.r (.at .unit0))
def f83_k0 : (List Int) → List (Nat × Blk) := fun y0 => [(2, (.gr (.int .i64) 3 y0 true))]
def f83_k (x1 x2 : Nat) (x3 x4 x5 : Int) (x6 : LI) : (List Int) → List (Nat × Blk) := fun y0 => [(2, (.gr (.int .i64) 3 y0 true))]
def f83_A (x1 x2 : Nat) (x3 x4 x5 : Int) (x6 : LI) : List G := [(.r (.at (.sl 2 x1 x2))), (GI x3), (GI x4), (GI x5)]
def f83_K (x1 x2 : Nat) (x3 x4 x5 : Int) (x6 : LI) : List (Nat × Blk) := [(2, (.gr (.int .i64) 3 x6 true))]
def f83_C (x1 x2 : Nat) (x3 x4 x5 : Int) (x6 : LI) (r : (List Int)) : Prop := CallOK cx 83 (f83_A x1 x2 x3 x4 x5 x6) (f83_K x1 x2 x3 x4 x5 x6) [] (f83_v r) (f83_k x1 x2 x3 x4 x5 x6 r)

def f49_M : List Nat := []
def f49_v : (List Int) → G := fun y0 => (.r (.at .unit0))
def f49_k0 : (List Int) → List (Nat × Blk) := fun y0 => [(2, (.gr (.int .i64) 3 y0 true))]
def f49_k (x1 : LI) : (List Int) → List (Nat × Blk) := fun y0 => [(2, (.gr (.int .i64) 3 y0 true))]
def f49_A (x1 : LI) : List G := [(.r (.at (.sl 2 0 (List.length x1))))]
def f49_K (x1 : LI) : List (Nat × Blk) := [(2, (.gr (.int .i64) 3 x1 true))]
def f49_C (x1 : LI) (r : (List Int)) : Prop := CallOK cx 49 (f49_A x1) (f49_K x1) [] (f49_v r) (f49_k x1 r)

def f70_M : List Nat := [2]
def f70_p7_1_H (x4 : LI) (x14 x13 x16 : Int) (x15 : LI) : GS := ⟨[(5, (GL x4)), (6, (.r (.at (.sl 2 0 (List.length x15))))), (8, (GI x14)), (9, (GI x16)), (22, (GL x4)), (23, (.r (.at (.int .i64 (LN x4))))), (24, (GI x13))], [(2, (.gr (.int .i64) 3 x15 true))]⟩
def f70_p7_1_x : (List Int) → GExit := fun y0 => (.exit 2)
def f70_p7_1_s (x4 : LI) (x14 x13 : Int) : (List Int) → GS := fun y0 => ⟨[(5, (GL x4)), (6, (.r (.at (.sl 2 0 (List.length y0))))), (22, (GL x4)), (23, (.r (.at (.int .i64 (LN x4))))), (24, (GI x13))], [(2, (.gr (.int .i64) 3 y0 true))]⟩
def f70_p7_1_P (x4 : LI) (x14 x13 x16 : Int) (x15 : LI) (r : (List Int)) : Prop := Lp cx f70_M 45 (part Try.f70 7) (f70_p7_1_H x4 x14 x13 x16 x15) (f70_p7_1_x r) (f70_p7_1_s x4 x14 x13 r)
def f70_p3_H (x4 : LI) (x13 : Int) (x12 : LI) : GS := ⟨[(5, (GL x4)), (6, (.r (.at (.sl 2 0 (List.length x12))))), (22, (GL x4)), (23, (.r (.at (.int .i64 (LN x4))))), (24, (GI x13))], [(2, (.gr (.int .i64) 3 x12 true))]⟩
def f70_p3_x : (List Int) → GExit := fun y0 => (.exit 0)
def f70_p3_s (x4 : LI) : (List Int) → GS := fun y0 => ⟨[(6, (.r (.at (.sl 2 0 (List.length y0)))))], [(2, (.gr (.int .i64) 3 y0 true))]⟩
def f70_p3_P (x4 : LI) (x13 : Int) (x12 : LI) (r : (List Int)) : Prop := Lp cx f70_M 45 (part Try.f70 3) (f70_p3_H x4 x13 x12) (f70_p3_x r) (f70_p3_s x4 r)
def f70_v : ((List Int) × Int) → G := fun (y0, y1) => (.tup [(.at (.lst (.int .i64) y0 false)), (.at (.int .i64 y1))])
def f70_k0 : ((List Int) × Int) → List (Nat × Blk) := fun (y0, y1) => []
def f70_k (x1 : LI) : ((List Int) × Int) → List (Nat × Blk) := fun (y0, y1) => []
def f70_A (x1 : LI) : List G := [(GL x1)]
def f70_K (x1 : LI) : List (Nat × Blk) := []
def f70_C (x1 : LI) (r : (List Int) × Int) : Prop := CallOK cx 70 (f70_A x1) (f70_K x1) [] (f70_v r) (f70_k x1 r)

def f28_M : List Nat := []
def f28_v : ((List Int) × Int) → G := fun (y0, y1) => (.tup [(.at (.lst (.int .i64) y0 false)), (.at (.int .i64 y1))])
def f28_k0 : ((List Int) × Int) → List (Nat × Blk) := fun (y0, y1) => []
def f28_k (x1 : LI) : ((List Int) × Int) → List (Nat × Blk) := fun (y0, y1) => []
def f28_A (x1 : LI) : List G := [(GL x1)]
def f28_K (x1 : LI) : List (Nat × Blk) := []
def f28_C (x1 : LI) (r : (List Int) × Int) : Prop := CallOK cx 28 (f28_A x1) (f28_K x1) [] (f28_v r) (f28_k x1 r)

def f30_M : List Nat := []
def f30_v : (Int × Int) → G := fun (y0, y1) => (.tup [(.at (.int .i64 y0)), (.at (.int .i64 y1))])
def f30_k0 : (Int × Int) → List (Nat × Blk) := fun (y0, y1) => []
def f30_k (x1 : LI) : (Int × Int) → List (Nat × Blk) := fun (y0, y1) => []
def f30_A (x1 : LI) : List G := [(GL x1)]
def f30_K (x1 : LI) : List (Nat × Blk) := []
def f30_C (x1 : LI) (r : Int × Int) : Prop := CallOK cx 30 (f30_A x1) (f30_K x1) [] (f30_v r) (f30_k x1 r)

def f24_M : List Nat := []
def f24_v : ((List Int) × Int) → G := fun (y0, y1) => (.tup [(.at (.lst (.int .i64) y0 false)), (.at (.int .i64 y1))])
def f24_k0 : ((List Int) × Int) → List (Nat × Blk) := fun (y0, y1) => []
def f24_k (x1 : LI) (x2 : Int) : ((List Int) × Int) → List (Nat × Blk) := fun (y0, y1) => []
def f24_A (x1 : LI) (x2 : Int) : List G := [(GL x1), (GI x2)]
def f24_K (x1 : LI) (x2 : Int) : List (Nat × Blk) := []
def f24_C (x1 : LI) (x2 : Int) (r : (List Int) × Int) : Prop := CallOK cx 24 (f24_A x1 x2) (f24_K x1 x2) [] (f24_v r) (f24_k x1 x2 r)

def f60_M : List Nat := []
def f60_v : ((List Int) × Int) → G := fun (y0, y1) => (.tup [(.at (.lst (.int .i64) y0 false)), (.at (.int .i64 y1))])
def f60_k0 : ((List Int) × Int) → List (Nat × Blk) := fun (y0, y1) => []
def f60_k (x1 : LI) (x2 : Int) : ((List Int) × Int) → List (Nat × Blk) := fun (y0, y1) => []
def f60_A (x1 : LI) (x2 : Int) : List G := [(GL x1), (GI x2)]
def f60_K (x1 : LI) (x2 : Int) : List (Nat × Blk) := []
def f60_C (x1 : LI) (x2 : Int) (r : (List Int) × Int) : Prop := CallOK cx 60 (f60_A x1 x2) (f60_K x1 x2) [] (f60_v r) (f60_k x1 x2 r)

def f61_M : List Nat := []
def f61_v : Bool → G := fun y0 => (GB y0)
def f61_k0 : Bool → List (Nat × Blk) := fun y0 => []
def f61_k (x1 : LI) (x2 : Int) : Bool → List (Nat × Blk) := fun y0 => []
def f61_A (x1 : LI) (x2 : Int) : List G := [(GL x1), (GI x2)]
def f61_K (x1 : LI) (x2 : Int) : List (Nat × Blk) := []
def f61_C (x1 : LI) (x2 : Int) (r : Bool) : Prop := CallOK cx 61 (f61_A x1 x2) (f61_K x1 x2) [] (f61_v r) (f61_k x1 x2 r)

def f17_M : List Nat := []
def f17_v : (Bool × Int) → G := fun (y0, y1) => (.tup [(.at (.bool y0)), (.at (.int .i64 y1))])
def f17_k0 : (Bool × Int) → List (Nat × Blk) := fun (y0, y1) => []
def f17_k (x1 : LI) (x2 : Int) : (Bool × Int) → List (Nat × Blk) := fun (y0, y1) => []
def f17_A (x1 : LI) (x2 : Int) : List G := [(GL x1), (GI x2)]
def f17_K (x1 : LI) (x2 : Int) : List (Nat × Blk) := []
def f17_C (x1 : LI) (x2 : Int) (r : Bool × Int) : Prop := CallOK cx 17 (f17_A x1 x2) (f17_K x1 x2) [] (f17_v r) (f17_k x1 x2 r)

def f21_M : List Nat := []
def f21_v : (Int × Int × Int) → G := fun (y0, y1, y2) => (.tup [(.at (.int .i64 y0)), (.at (.int .i64 y1)), (.at (.int .i64 y2))])
def f21_k0 : (Int × Int × Int) → List (Nat × Blk) := fun (y0, y1, y2) => []
def f21_k (x1 : LI) (x2 : Int) : (Int × Int × Int) → List (Nat × Blk) := fun (y0, y1, y2) => []
def f21_A (x1 : LI) (x2 : Int) : List G := [(GL x1), (GI x2)]
def f21_K (x1 : LI) (x2 : Int) : List (Nat × Blk) := []
def f21_C (x1 : LI) (x2 : Int) (r : Int × Int × Int) : Prop := CallOK cx 21 (f21_A x1 x2) (f21_K x1 x2) [] (f21_v r) (f21_k x1 x2 r)

def f89_1_M : List Nat := []
def f89_1_v : Int → G := fun y0 => (GI y0)
def f89_1_k0 : Int → List (Nat × Blk) := fun y0 => []
def f89_1_k (x1 : Int) (x2 : LI) (x3 x4 x5 : Int) : Int → List (Nat × Blk) := fun y0 => [(8, (.var [.cell (.lst (.int .i64) x2 false)])), (10, (.var [.cell (.int .i64 x3)])), (13, (.var [.cell (.int .i64 x4)])), (14, (.var [.cell (.int .i64 x5)]))]
def f89_1_A (x1 : Int) (x2 : LI) (x3 x4 x5 : Int) : List G := [(GI x1), (.r (.at (.ptr 8 0 0))), (.r (.at (.ptr 13 0 0))), (.r (.at (.ptr 10 0 0))), (.r (.at (.ptr 14 0 0)))]
def f89_1_K (x1 : Int) (x2 : LI) (x3 x4 x5 : Int) : List (Nat × Blk) := [(8, (.var [.cell (.lst (.int .i64) x2 false)])), (10, (.var [.cell (.int .i64 x3)])), (13, (.var [.cell (.int .i64 x4)])), (14, (.var [.cell (.int .i64 x5)]))]
def f89_1_C (x1 : Int) (x2 : LI) (x3 x4 x5 : Int) (r : Int) : Prop := CallOK cx 89 (f89_1_A x1 x2 x3 x4 x5) (f89_1_K x1 x2 x3 x4 x5) [] (f89_1_v r) (f89_1_k x1 x2 x3 x4 x5 r)

def f65_M : List Nat := [6, 7, 8, 9, 10, 11, 12, 13, 14, 15, 16]
def f65_p1_H (x3 : Int) (x1 x2 : LI) (x6 : Int) (x5 : LI) : GS := ⟨[(1, (GI x3)), (2, (.r (.at (.ptr 6 0 0)))), (6, (.r (.at (.ptr 8 0 0)))), (26, (.r (.at (.int .i64 (((Int.toNat (w64 (x3 + 1))) : Nat) : Int))))), (27, (GI x6))], [(6, (.var [.cell (.lst (.int .i64) x1 false), .cell (.lst (.int .i64) x2 false)])), (7, (.gr (.int .i64) 3 x5 true)), (8, (.var [.cell (.sl 7 0 (Int.toNat (w64 (x3 + 1))))]))]⟩
def f65_p1_x : (List Int) → GExit := fun y0 => (.exit 0)
def f65_p1_s (x3 : Int) (x1 x2 : LI) : (List Int) → GS := fun y0 => ⟨[(1, (GI x3)), (2, (.r (.at (.ptr 6 0 0)))), (6, (.r (.at (.ptr 8 0 0))))], [(6, (.var [.cell (.lst (.int .i64) x1 false), .cell (.lst (.int .i64) x2 false)])), (7, (.gr (.int .i64) 3 y0 true)), (8, (.var [.cell (.sl 7 0 (Int.toNat (w64 (x3 + 1))))]))]⟩
def f65_p1_P (x3 : Int) (x1 x2 : LI) (x6 : Int) (x5 : LI) (r : (List Int)) : Prop := Lp cx f65_M 178 (part Try.f65 1) (f65_p1_H x3 x1 x2 x6 x5) (f65_p1_x r) (f65_p1_s x3 x1 x2 r)
def f65_p17_17_H (x3 : Int) (x1 : LI) (x134 x137 : Int) (x136 x167 : Int) (x2 x135 : LI) (x133 : LL) (x179 x180 : LI) (x182 : Int) (x183 : LI) : GS := ⟨[(1, (GI x3)), (2, (.r (.at (.ptr 6 0 0)))), (6, (.r (.at (.ptr 8 0 0)))), (8, (.r (.at (.sl 9 0 (Int.toNat (LN x1)))))), (9, (GI x134)), (10, (.r (.at (.ptr 10 0 0)))), (11, (GI x137)), (12, (.r (.at (.sl 11 0 (Int.toNat (w64 (x3 + 1))))))), (13, (.r (.at (.sl 12 0 (Int.toNat (w64 (x3 + 1))))))), (14, (.r (.at (.ptr 13 0 0)))), (15, (.r (.at (.sl 15 0 (List.length x183))))), (16, (.r (.at (.ptr 14 0 0)))), (17, (.r (.at (.app2 (.app2 (.app2 (.app2 (.fn 89) (.ptr 8 0 0)) (.ptr 13 0 0)) (.ptr 10 0 0)) (.ptr 14 0 0))))), (67, (.r (.at (.int .i64 (if (w64 (x3 + 1)) < x136 then (w64 (x3 + 1)) else x136))))), (68, (GI x167))], [(6, (.var [.cell (.lst (.int .i64) x1 false), .cell (.lst (.int .i64) x2 false)])), (8, (.var [.cell (.lst (.int .i64) x135 false)])), (9, (.gr (.list (.int .i64)) 22 x133 true)), (10, (.var [.cell (.int .i64 x136)])), (11, (.gr (.int .i64) 3 x179 true)), (12, (.gr (.int .i64) 3 x180 true)), (13, (.var [.cell (.int .i64 x167)])), (14, (.var [.cell (.int .i64 x182)])), (15, (.gr (.int .i64) 3 x183 true))]⟩
def f65_p17_17_x : (List Int) → GExit := fun y0 => (.exit 8)
def f65_p17_17_s (x3 : Int) (x1 : LI) (x134 x137 : Int) (x136 x167 : Int) (x2 x135 : LI) (x133 : LL) (x179 x180 : LI) (x182 : Int) : (List Int) → GS := fun y0 => ⟨[(1, (GI x3)), (2, (.r (.at (.ptr 6 0 0)))), (6, (.r (.at (.ptr 8 0 0)))), (8, (.r (.at (.sl 9 0 (Int.toNat (LN x1)))))), (9, (GI x134)), (10, (.r (.at (.ptr 10 0 0)))), (11, (GI x137)), (12, (.r (.at (.sl 11 0 (Int.toNat (w64 (x3 + 1))))))), (13, (.r (.at (.sl 12 0 (Int.toNat (w64 (x3 + 1))))))), (14, (.r (.at (.ptr 13 0 0)))), (15, (.r (.at (.sl 15 0 (List.length y0))))), (16, (.r (.at (.ptr 14 0 0)))), (17, (.r (.at (.app2 (.app2 (.app2 (.app2 (.fn 89) (.ptr 8 0 0)) (.ptr 13 0 0)) (.ptr 10 0 0)) (.ptr 14 0 0))))), (67, (.r (.at (.int .i64 (if (w64 (x3 + 1)) < x136 then (w64 (x3 + 1)) else x136))))), (68, (GI x167))], [(6, (.var [.cell (.lst (.int .i64) x1 false), .cell (.lst (.int .i64) x2 false)])), (8, (.var [.cell (.lst (.int .i64) x135 false)])), (9, (.gr (.list (.int .i64)) 22 x133 true)), (10, (.var [.cell (.int .i64 x136)])), (11, (.gr (.int .i64) 3 x179 true)), (12, (.gr (.int .i64) 3 x180 true)), (13, (.var [.cell (.int .i64 x167)])), (14, (.var [.cell (.int .i64 x182)])), (15, (.gr (.int .i64) 3 y0 true))]⟩
def f65_p17_17_P (x3 : Int) (x1 : LI) (x134 x137 : Int) (x136 x167 : Int) (x2 x135 : LI) (x133 : LL) (x179 x180 : LI) (x182 : Int) (x183 : LI) (r : (List Int)) : Prop := Lp cx f65_M 178 (part Try.f65 17) (f65_p17_17_H x3 x1 x134 x137 x136 x167 x2 x135 x133 x179 x180 x182 x183) (f65_p17_17_x r) (f65_p17_17_s x3 x1 x134 x137 x136 x167 x2 x135 x133 x179 x180 x182 r)
def f65_p20_17_H (x3 : Int) (x1 : LI) (x134 x137 : Int) (x187 : LI) (x182 x136 : Int) (x167 x188 : Int) (x2 x135 : LI) (x133 : LL) (x179 x180 : LI) : GS := ⟨[(1, (GI x3)), (2, (.r (.at (.ptr 6 0 0)))), (6, (.r (.at (.ptr 8 0 0)))), (8, (.r (.at (.sl 9 0 (Int.toNat (LN x1)))))), (9, (GI x134)), (10, (.r (.at (.ptr 10 0 0)))), (11, (GI x137)), (12, (.r (.at (.sl 11 0 (Int.toNat (w64 (x3 + 1))))))), (13, (.r (.at (.sl 12 0 (Int.toNat (w64 (x3 + 1))))))), (14, (.r (.at (.ptr 13 0 0)))), (15, (.r (.at (.sl 15 0 (List.length (x187 ++ ([x182] : List Int))))))), (16, (.r (.at (.ptr 14 0 0)))), (17, (.r (.at (.app2 (.app2 (.app2 (.app2 (.fn 89) (.ptr 8 0 0)) (.ptr 13 0 0)) (.ptr 10 0 0)) (.ptr 14 0 0))))), (67, (.r (.at (.int .i64 (if (w64 (x3 + 1)) < x136 then (w64 (x3 + 1)) else x136))))), (68, (GI x167)), (113, (.r (.at (.bool (decide (x188 < (w64 (x182 - x137))))))))], [(6, (.var [.cell (.lst (.int .i64) x1 false), .cell (.lst (.int .i64) x2 false)])), (8, (.var [.cell (.lst (.int .i64) x135 false)])), (9, (.gr (.list (.int .i64)) 22 x133 true)), (10, (.var [.cell (.int .i64 x136)])), (11, (.gr (.int .i64) 3 x179 true)), (12, (.gr (.int .i64) 3 x180 true)), (13, (.var [.cell (.int .i64 x167)])), (14, (.var [.cell (.int .i64 x182)])), (15, (.gr (.int .i64) 3 ((x187 ++ ([x182] : List Int)) : List Int) true))]⟩
def f65_p20_17_x : (List Int) → GExit := fun y0 => .normal
def f65_p20_17_s (x3 : Int) (x1 : LI) (x134 x137 : Int) (x187 : LI) (x182 x136 : Int) (x167 x188 : Int) (x2 x135 : LI) (x133 : LL) (x179 x180 : LI) : (List Int) → GS := fun y0 => ⟨[(1, (GI x3)), (2, (.r (.at (.ptr 6 0 0)))), (6, (.r (.at (.ptr 8 0 0)))), (8, (.r (.at (.sl 9 0 (Int.toNat (LN x1)))))), (9, (GI x134)), (10, (.r (.at (.ptr 10 0 0)))), (11, (GI x137)), (12, (.r (.at (.sl 11 0 (Int.toNat (w64 (x3 + 1))))))), (13, (.r (.at (.sl 12 0 (Int.toNat (w64 (x3 + 1))))))), (14, (.r (.at (.ptr 13 0 0)))), (15, (.r (.at (.sl 15 0 (List.length y0))))), (16, (.r (.at (.ptr 14 0 0)))), (17, (.r (.at (.app2 (.app2 (.app2 (.app2 (.fn 89) (.ptr 8 0 0)) (.ptr 13 0 0)) (.ptr 10 0 0)) (.ptr 14 0 0))))), (67, (.r (.at (.int .i64 (if (w64 (x3 + 1)) < x136 then (w64 (x3 + 1)) else x136))))), (68, (GI x167))], [(6, (.var [.cell (.lst (.int .i64) x1 false), .cell (.lst (.int .i64) x2 false)])), (8, (.var [.cell (.lst (.int .i64) x135 false)])), (9, (.gr (.list (.int .i64)) 22 x133 true)), (10, (.var [.cell (.int .i64 x136)])), (11, (.gr (.int .i64) 3 x179 true)), (12, (.gr (.int .i64) 3 x180 true)), (13, (.var [.cell (.int .i64 x167)])), (14, (.var [.cell (.int .i64 x182)])), (15, (.gr (.int .i64) 3 y0 true))]⟩
def f65_p20_17_P (x3 : Int) (x1 : LI) (x134 x137 : Int) (x187 : LI) (x182 x136 : Int) (x167 x188 : Int) (x2 x135 : LI) (x133 : LL) (x179 x180 : LI) (r : (List Int)) : Prop := Ex cx f65_M 178 (part Try.f65 20) (f65_p20_17_H x3 x1 x134 x137 x187 x182 x136 x167 x188 x2 x135 x133 x179 x180) (f65_p20_17_x r) (f65_p20_17_s x3 x1 x134 x137 x187 x182 x136 x167 x188 x2 x135 x133 x179 x180 r)
def f65_p13_5_H (x3 : Int) (x1 : LI) (x134 x137 : Int) (x136 x167 : Int) (x2 x135 : LI) (x133 : LL) (x179 x180 : LI) (x182 : Int) (x181 : LI) : GS := ⟨[(1, (GI x3)), (2, (.r (.at (.ptr 6 0 0)))), (6, (.r (.at (.ptr 8 0 0)))), (8, (.r (.at (.sl 9 0 (Int.toNat (LN x1)))))), (9, (GI x134)), (10, (.r (.at (.ptr 10 0 0)))), (11, (GI x137)), (12, (.r (.at (.sl 11 0 (Int.toNat (w64 (x3 + 1))))))), (13, (.r (.at (.sl 12 0 (Int.toNat (w64 (x3 + 1))))))), (14, (.r (.at (.ptr 13 0 0)))), (15, (.r (.at (.sl 15 0 (List.length x181))))), (16, (.r (.at (.ptr 14 0 0)))), (67, (.r (.at (.int .i64 (if (w64 (x3 + 1)) < x136 then (w64 (x3 + 1)) else x136))))), (68, (GI x167))], [(6, (.var [.cell (.lst (.int .i64) x1 false), .cell (.lst (.int .i64) x2 false)])), (8, (.var [.cell (.lst (.int .i64) x135 false)])), (9, (.gr (.list (.int .i64)) 22 x133 true)), (10, (.var [.cell (.int .i64 x136)])), (11, (.gr (.int .i64) 3 x179 true)), (12, (.gr (.int .i64) 3 x180 true)), (13, (.var [.cell (.int .i64 x167)])), (14, (.var [.cell (.int .i64 x182)])), (15, (.gr (.int .i64) 3 x181 true))]⟩
def f65_p13_5_x : ((List Int) × (List Int)) → GExit := fun (y0, y1) => (.exit 6)
def f65_p13_5_s (x3 : Int) (x1 : LI) (x134 x137 : Int) (x136 x167 : Int) (x2 x135 : LI) (x133 : LL) : ((List Int) × (List Int)) → GS := fun (y0, y1) => ⟨[(1, (GI x3)), (2, (.r (.at (.ptr 6 0 0)))), (6, (.r (.at (.ptr 8 0 0)))), (8, (.r (.at (.sl 9 0 (Int.toNat (LN x1)))))), (9, (GI x134)), (10, (.r (.at (.ptr 10 0 0)))), (11, (GI x137)), (12, (.r (.at (.sl 11 0 (Int.toNat (w64 (x3 + 1))))))), (13, (.r (.at (.sl 12 0 (Int.toNat (w64 (x3 + 1))))))), (67, (.r (.at (.int .i64 (if (w64 (x3 + 1)) < x136 then (w64 (x3 + 1)) else x136))))), (68, (GI x167))], [(6, (.var [.cell (.lst (.int .i64) x1 false), .cell (.lst (.int .i64) x2 false)])), (8, (.var [.cell (.lst (.int .i64) x135 false)])), (9, (.gr (.list (.int .i64)) 22 x133 true)), (10, (.var [.cell (.int .i64 x136)])), (11, (.gr (.int .i64) 3 y0 true)), (12, (.gr (.int .i64) 3 y1 true))]⟩
def f65_p13_5_P (x3 : Int) (x1 : LI) (x134 x137 : Int) (x136 x167 : Int) (x2 x135 : LI) (x133 : LL) (x179 x180 : LI) (x182 : Int) (x181 : LI) (r : (List Int) × (List Int)) : Prop := Lp cx f65_M 178 (part Try.f65 13) (f65_p13_5_H x3 x1 x134 x137 x136 x167 x2 x135 x133 x179 x180 x182 x181) (f65_p13_5_x r) (f65_p13_5_s x3 x1 x134 x137 x136 x167 x2 x135 x133 r)
def f65_p9_2_H (x3 : Int) (x1 : LI) (x134 x137 x136 : Int) (x2 x135 : LI) (x133 : LL) (x167 : Int) (x165 x166 : LI) : GS := ⟨[(1, (GI x3)), (2, (.r (.at (.ptr 6 0 0)))), (6, (.r (.at (.ptr 8 0 0)))), (8, (.r (.at (.sl 9 0 (Int.toNat (LN x1)))))), (9, (GI x134)), (10, (.r (.at (.ptr 10 0 0)))), (11, (GI x137)), (12, (.r (.at (.sl 11 0 (Int.toNat (w64 (x3 + 1))))))), (13, (.r (.at (.sl 12 0 (Int.toNat (w64 (x3 + 1))))))), (67, (.r (.at (.int .i64 (if (w64 (x3 + 1)) < x136 then (w64 (x3 + 1)) else x136))))), (68, (GI x167))], [(6, (.var [.cell (.lst (.int .i64) x1 false), .cell (.lst (.int .i64) x2 false)])), (8, (.var [.cell (.lst (.int .i64) x135 false)])), (9, (.gr (.list (.int .i64)) 22 x133 true)), (10, (.var [.cell (.int .i64 x136)])), (11, (.gr (.int .i64) 3 x165 true)), (12, (.gr (.int .i64) 3 x166 true))]⟩
def f65_p9_2_x : ((List Int) × (List Int)) → GExit := fun (y0, y1) => (.exit 4)
def f65_p9_2_s (x3 : Int) (x1 : LI) (x134 x137 x136 : Int) (x2 x135 : LI) (x133 : LL) : ((List Int) × (List Int)) → GS := fun (y0, y1) => ⟨[(1, (GI x3)), (2, (.r (.at (.ptr 6 0 0)))), (6, (.r (.at (.ptr 8 0 0)))), (8, (.r (.at (.sl 9 0 (Int.toNat (LN x1)))))), (9, (GI x134)), (12, (.r (.at (.sl 11 0 (Int.toNat (w64 (x3 + 1))))))), (13, (.r (.at (.sl 12 0 (Int.toNat (w64 (x3 + 1)))))))], [(6, (.var [.cell (.lst (.int .i64) x1 false), .cell (.lst (.int .i64) x2 false)])), (8, (.var [.cell (.lst (.int .i64) x135 false)])), (9, (.gr (.list (.int .i64)) 22 x133 true)), (11, (.gr (.int .i64) 3 y0 true)), (12, (.gr (.int .i64) 3 y1 true))]⟩
def f65_p9_2_P (x3 : Int) (x1 : LI) (x134 x137 x136 : Int) (x2 x135 : LI) (x133 : LL) (x167 : Int) (x165 x166 : LI) (r : (List Int) × (List Int)) : Prop := Lp cx f65_M 178 (part Try.f65 9) (f65_p9_2_H x3 x1 x134 x137 x136 x2 x135 x133 x167 x165 x166) (f65_p9_2_x r) (f65_p9_2_s x3 x1 x134 x137 x136 x2 x135 x133 r)
def f65_p5_H (x3 : Int) (x1 x2 : LI) (x134 : Int) (x135 : LI) (x133 : LL) : GS := ⟨[(1, (GI x3)), (2, (.r (.at (.ptr 6 0 0)))), (6, (.r (.at (.ptr 8 0 0)))), (8, (.r (.at (.sl 9 0 (Int.toNat (LN x1)))))), (9, (GI x134))], [(6, (.var [.cell (.lst (.int .i64) x1 false), .cell (.lst (.int .i64) x2 false)])), (8, (.var [.cell (.lst (.int .i64) x135 false)])), (9, (.gr (.list (.int .i64)) 22 x133 true))]⟩
def f65_p5_x : ((List Int) × (List (List Int))) → GExit := fun (y0, y1) => (.exit 2)
def f65_p5_s (x3 : Int) (x1 x2 : LI) : ((List Int) × (List (List Int))) → GS := fun (y0, y1) => ⟨[(1, (GI x3)), (2, (.r (.at (.ptr 6 0 0)))), (6, (.r (.at (.ptr 8 0 0)))), (8, (.r (.at (.sl 9 0 (Int.toNat (LN x1))))))], [(6, (.var [.cell (.lst (.int .i64) x1 false), .cell (.lst (.int .i64) x2 false)])), (8, (.var [.cell (.lst (.int .i64) y0 false)])), (9, (.gr (.list (.int .i64)) 22 y1 true))]⟩
def f65_p5_P (x3 : Int) (x1 x2 : LI) (x134 : Int) (x135 : LI) (x133 : LL) (r : (List Int) × (List (List Int))) : Prop := Lp cx f65_M 178 (part Try.f65 5) (f65_p5_H x3 x1 x2 x134 x135 x133) (f65_p5_x r) (f65_p5_s x3 x1 x2 r)
def f65_p23_H (x1 x2 : LI) (x197 : LL) (x205 x206 : Int) (x204 : LI) : GS := ⟨[(1, (GI x205)), (2, (.r (.at (.ptr 6 0 0)))), (19, (.r (.at (.sl 16 0 (List.length x204))))), (150, (.r (.at (.sl 9 0 (Int.toNat (LN x1)))))), (151, (.r (.at (.int .i64 (((Int.toNat (LN x1)) : Nat) : Int))))), (152, (GI x206))], [(6, (.var [.cell (.lst (.int .i64) x1 false), .cell (.lst (.int .i64) x2 false)])), (9, (.gr (.list (.int .i64)) 22 x197 true)), (16, (.gr (.int .i64) 3 x204 true))]⟩
def f65_p23_x : (List Int) → GExit := fun y0 => (.exit 10)
def f65_p23_s (x1 x2 : LI) (x197 : LL) : (List Int) → GS := fun y0 => ⟨[(19, (.r (.at (.sl 16 0 (List.length y0)))))], [(16, (.gr (.int .i64) 3 y0 true))]⟩
def f65_p23_P (x1 x2 : LI) (x197 : LL) (x205 x206 : Int) (x204 : LI) (r : (List Int)) : Prop := Lp cx f65_M 178 (part Try.f65 23) (f65_p23_H x1 x2 x197 x205 x206 x204) (f65_p23_x r) (f65_p23_s x1 x2 x197 r)
def f65_v : ((List Int) × Int) → G := fun (y0, y1) => (.tup [(.at (.lst (.int .i64) y0 false)), (.at (.int .i64 y1))])
def f65_k0 : ((List Int) × Int) → List (Nat × Blk) := fun (y0, y1) => []
def f65_k (x1 x2 : LI) (x3 : Int) : ((List Int) × Int) → List (Nat × Blk) := fun (y0, y1) => []
def f65_A (x1 x2 : LI) (x3 : Int) : List G := [(.r (.agg [.cell (.lst (.int .i64) x1 false), .cell (.lst (.int .i64) x2 false)])), (GI x3)]
def f65_K (x1 x2 : LI) (x3 : Int) : List (Nat × Blk) := []
def f65_C (x1 x2 : LI) (x3 : Int) (r : (List Int) × Int) : Prop := CallOK cx 65 (f65_A x1 x2 x3) (f65_K x1 x2 x3) [] (f65_v r) (f65_k x1 x2 x3 r)

def f19_M : List Nat := [4, 5]
def f19_p2_H (x2 : Int) (x1 : LI) (x11 : Int) (x12 x10 : LI) : GS := ⟨[(1, (GI x2)), (8, (.r (.at (.ptr 4 0 0)))), (22, (GL x1)), (23, (.r (.at (.int .i64 (LN x1))))), (24, (GI x11))], [(4, (.var [.cell (.lst (.int .i64) x12 false), .cell (.sl 5 0 (List.length x10))])), (5, (.gr (.int .i64) 3 x10 true))]⟩
def f19_p2_x : ((List Int) × (List Int)) → GExit := fun (y0, y1) => (.exit 0)
def f19_p2_s (x2 : Int) (x1 : LI) : ((List Int) × (List Int)) → GS := fun (y0, y1) => ⟨[(1, (GI x2)), (8, (.r (.at (.ptr 4 0 0))))], [(4, (.var [.cell (.lst (.int .i64) y0 false), .cell (.sl 5 0 (List.length y1))])), (5, (.gr (.int .i64) 3 y1 true))]⟩
def f19_p2_P (x2 : Int) (x1 : LI) (x11 : Int) (x12 x10 : LI) (r : (List Int) × (List Int)) : Prop := Lp cx f19_M 42 (part Try.f19 2) (f19_p2_H x2 x1 x11 x12 x10) (f19_p2_x r) (f19_p2_s x2 x1 r)
def f19_v : ((List Int) × Int) → G := fun (y0, y1) => (.tup [(.at (.lst (.int .i64) y0 false)), (.at (.int .i64 y1))])
def f19_k0 : ((List Int) × Int) → List (Nat × Blk) := fun (y0, y1) => []
def f19_k (x1 : LI) (x2 : Int) : ((List Int) × Int) → List (Nat × Blk) := fun (y0, y1) => []
def f19_A (x1 : LI) (x2 : Int) : List G := [(GL x1), (GI x2)]
def f19_K (x1 : LI) (x2 : Int) : List (Nat × Blk) := []
def f19_C (x1 : LI) (x2 : Int) (r : (List Int) × Int) : Prop := CallOK cx 19 (f19_A x1 x2) (f19_K x1 x2) [] (f19_v r) (f19_k x1 x2 r)

def f34_M : List Nat := [17]
def f34_p5_H (x1 x5 : LI) (x6 : Int) (x10 : Bool) : GS := ⟨[(0, (GL x1)), (5, (.r (.at (.sl 17 0 (List.length x5))))), (6, (GI x6)), (13, (GL x1)), (14, (.r (.at (.int .i64 (LN x1))))), (15, (GI x6)), (33, (.r (.at (.bool (!x10)))))], [(17, (.gr (.int .i64) 3 x5 true))]⟩
def f34_p5_x : (List Int) → GExit := fun y0 => .normal
def f34_p5_s (x1 x5 : LI) (x6 : Int) (x10 : Bool) : (List Int) → GS := fun y0 => ⟨[(0, (GL x1)), (5, (.r (.at (.sl 17 0 (List.length y0))))), (13, (GL x1)), (14, (.r (.at (.int .i64 (LN x1))))), (15, (GI x6))], [(17, (.gr (.int .i64) 3 y0 true))]⟩
def f34_p5_P (x1 x5 : LI) (x6 : Int) (x10 : Bool) (r : (List Int)) : Prop := Ex cx f34_M 40 (part Try.f34 5) (f34_p5_H x1 x5 x6 x10) (f34_p5_x r) (f34_p5_s x1 x5 x6 x10 r)
def f34_p2_H (x1 : LI) (x6 : Int) (x5 : LI) : GS := ⟨[(0, (GL x1)), (5, (.r (.at (.sl 17 0 (List.length x5))))), (13, (GL x1)), (14, (.r (.at (.int .i64 (LN x1))))), (15, (GI x6))], [(17, (.gr (.int .i64) 3 x5 true))]⟩
def f34_p2_x : (List Int) → GExit := fun y0 => (.exit 0)
def f34_p2_s (x1 : LI) : (List Int) → GS := fun y0 => ⟨[(5, (.r (.at (.sl 17 0 (List.length y0)))))], [(17, (.gr (.int .i64) 3 y0 true))]⟩
def f34_p2_P (x1 : LI) (x6 : Int) (x5 : LI) (r : (List Int)) : Prop := Lp cx f34_M 40 (part Try.f34 2) (f34_p2_H x1 x6 x5) (f34_p2_x r) (f34_p2_s x1 r)
def f34_v : ((List Int) × Int) → G := fun (y0, y1) => (.tup [(.at (.lst (.int .i64) y0 false)), (.at (.int .i64 y1))])
def f34_k0 : ((List Int) × Int) → List (Nat × Blk) := fun (y0, y1) => []
def f34_k (x1 : LI) : ((List Int) × Int) → List (Nat × Blk) := fun (y0, y1) => []
def f34_A (x1 : LI) : List G := [(GL x1)]
def f34_K (x1 : LI) : List (Nat × Blk) := []
def f34_C (x1 : LI) (r : (List Int) × Int) : Prop := CallOK cx 34 (f34_A x1) (f34_K x1) [] (f34_v r) (f34_k x1 r)

def f32_M : List Nat := []
def f32_v : (Bool × Int) → G := fun (y0, y1) => (.tup [(.at (.bool y0)), (.at (.int .i64 y1))])
def f32_k0 : (Bool × Int) → List (Nat × Blk) := fun (y0, y1) => []
def f32_k (x1 : LI) : (Bool × Int) → List (Nat × Blk) := fun (y0, y1) => []
def f32_A (x1 : LI) : List G := [(GL x1)]
def f32_K (x1 : LI) : List (Nat × Blk) := []
def f32_C (x1 : LI) (r : Bool × Int) : Prop := CallOK cx 32 (f32_A x1) (f32_K x1) [] (f32_v r) (f32_k x1 r)

def f92_M : List Nat := []
def f92_p0_H (x1 : LI) : GS := ⟨[(0, (GL x1)), (7, (.r (.at (.bool (decide ((LN x1) < 1))))))], []⟩
def f92_p0_x : Unit → GExit := fun _ => .normal
def f92_p0_s (x1 : LI) : Unit → GS := fun _ => ⟨[(0, (GL x1))], []⟩
def f92_p0_P (x1 : LI) (r : Unit) : Prop := Ex cx f92_M 25 (part Try.f92 0) (f92_p0_H x1) (f92_p0_x r) (f92_p0_s x1 r)
def f92_p2_H (x1 : LI) (x3 x4 : Int) : GS := ⟨[(0, (GL x1)), (3, (GI x3)), (4, (GI x4))], []⟩
def f92_p2_x : Int → GExit := fun y0 => (.exit 0)
def f92_p2_s (x1 : LI) : Int → GS := fun y0 => ⟨[(3, (GI y0))], []⟩
def f92_p2_P (x1 : LI) (x3 x4 : Int) (r : Int) : Prop := Lp cx f92_M 25 (part Try.f92 2) (f92_p2_H x1 x3 x4) (f92_p2_x r) (f92_p2_s x1 r)
def f92_v : Int → G := fun y0 => (GI y0)
def f92_k0 : Int → List (Nat × Blk) := fun y0 => []
def f92_k (x1 : LI) : Int → List (Nat × Blk) := fun y0 => []
def f92_A (x1 : LI) : List G := [(GL x1)]
def f92_K (x1 : LI) : List (Nat × Blk) := []
def f92_C (x1 : LI) (r : Int) : Prop := CallOK cx 92 (f92_A x1) (f92_K x1) [] (f92_v r) (f92_k x1 r)

def f85_M : List Nat := []
def f85_p0_H (x1 : LI) : GS := ⟨[(0, (GL x1)), (7, (.r (.at (.bool (decide ((LN x1) < 1))))))], []⟩
def f85_p0_x : Unit → GExit := fun _ => .normal
def f85_p0_s (x1 : LI) : Unit → GS := fun _ => ⟨[(0, (GL x1))], []⟩
def f85_p0_P (x1 : LI) (r : Unit) : Prop := Ex cx f85_M 25 (part Try.f85 0) (f85_p0_H x1) (f85_p0_x r) (f85_p0_s x1 r)
def f85_p2_H (x1 : LI) (x3 x4 : Int) : GS := ⟨[(0, (GL x1)), (3, (GI x3)), (4, (GI x4))], []⟩
def f85_p2_x : Int → GExit := fun y0 => (.exit 0)
def f85_p2_s (x1 : LI) : Int → GS := fun y0 => ⟨[(3, (GI y0))], []⟩
def f85_p2_P (x1 : LI) (x3 x4 : Int) (r : Int) : Prop := Lp cx f85_M 25 (part Try.f85 2) (f85_p2_H x1 x3 x4) (f85_p2_x r) (f85_p2_s x1 r)
def f85_v : Int → G := fun y0 => (GI y0)
def f85_k0 : Int → List (Nat × Blk) := fun y0 => []
def f85_k (x1 : LI) : Int → List (Nat × Blk) := fun y0 => []
def f85_A (x1 : LI) : List G := [(GL x1)]
def f85_K (x1 : LI) : List (Nat × Blk) := []
def f85_C (x1 : LI) (r : Int) : Prop := CallOK cx 85 (f85_A x1) (f85_K x1) [] (f85_v r) (f85_k x1 r)

def f77_M : List Nat := [19]
def f77_v : ((List Int) × (List Int) × Int) → G := fun (y0, y1, y2) => (.tup [(.agg [.cell (.lst (.int .i64) y0 false), .cell (.lst (.int .i64) y1 false)]), (.at (.int .i64 y2))])
def f77_k0 : ((List Int) × (List Int) × Int) → List (Nat × Blk) := fun (y0, y1, y2) => []
def f77_k (x1 x2 : LI) : ((List Int) × (List Int) × Int) → List (Nat × Blk) := fun (y0, y1, y2) => []
def f77_A (x1 x2 : LI) : List G := [(GL x1), (GL x2)]
def f77_K (x1 x2 : LI) : List (Nat × Blk) := []
def f77_C (x1 x2 : LI) (r : (List Int) × (List Int) × Int) : Prop := CallOK cx 77 (f77_A x1 x2) (f77_K x1 x2) [] (f77_v r) (f77_k x1 x2 r)

def f73_M : List Nat := [18, 20]
def f73_p0_H (x6 : Int) (x7 : Bool) (x4 x5 : LI) : GS := ⟨[(6, (.r (.at (.ptr 18 0 0)))), (8, (.r (.at (.ptr 20 0 0)))), (9, (GI x6)), (22, (.r (.at (.bool (!x7)))))], [(18, (.var [.cell .nils, .cell .nils])), (20, (.var [.cell (.lst (.int .i64) x4 false), .cell (.lst (.int .i64) x5 false)]))]⟩
def f73_p0_x : Int → GExit := fun y0 => .normal
def f73_p0_s (x6 : Int) (x7 : Bool) (x4 x5 : LI) : Int → GS := fun y0 => ⟨[(6, (.r (.at (.ptr 18 0 0)))), (8, (.r (.at (.ptr 20 0 0)))), (9, (GI y0))], [(18, (.var [.cell .nils, .cell .nils])), (20, (.var [.cell (.lst (.int .i64) x4 false), .cell (.lst (.int .i64) x5 false)]))]⟩
def f73_p0_P (x6 : Int) (x7 : Bool) (x4 x5 : LI) (r : Int) : Prop := Ex cx f73_M 25 (part Try.f73 0) (f73_p0_H x6 x7 x4 x5) (f73_p0_x r) (f73_p0_s x6 x7 x4 x5 r)
def f73_v : ((List Int) × (List Int) × Int) → G := fun (y0, y1, y2) => (.tup [(.agg [.cell (.lst (.int .i64) y0 false), .cell (.lst (.int .i64) y1 false)]), (.at (.int .i64 y2))])
def f73_k0 : ((List Int) × (List Int) × Int) → List (Nat × Blk) := fun (y0, y1, y2) => []
def f73_k (x1 x2 : LI) (x3 : Int) : ((List Int) × (List Int) × Int) → List (Nat × Blk) := fun (y0, y1, y2) => []
def f73_A (x1 x2 : LI) (x3 : Int) : List G := [(GL x1), (GL x2), (GI x3)]
def f73_K (x1 x2 : LI) (x3 : Int) : List (Nat × Blk) := []
def f73_C (x1 x2 : LI) (x3 : Int) (r : (List Int) × (List Int) × Int) : Prop := CallOK cx 73 (f73_A x1 x2 x3) (f73_K x1 x2 x3) [] (f73_v r) (f73_k x1 x2 x3 r)

def f51_M : List Nat := [21]
def f51_v : ((List Int) × Int) → G := fun (y0, y1) => (.tup [(.at (.lst (.int .i64) y0 false)), (.at (.int .i64 y1))])
def f51_k0 : ((List Int) × Int) → List (Nat × Blk) := fun (y0, y1) => []
def f51_k (x1 x2 : LI) (x3 : Int) : ((List Int) × Int) → List (Nat × Blk) := fun (y0, y1) => []
def f51_A (x1 x2 : LI) (x3 : Int) : List G := [(GL x1), (GL x2), (GI x3)]
def f51_K (x1 x2 : LI) (x3 : Int) : List (Nat × Blk) := []
def f51_C (x1 x2 : LI) (x3 : Int) (r : (List Int) × Int) : Prop := CallOK cx 51 (f51_A x1 x2 x3) (f51_K x1 x2 x3) [] (f51_v r) (f51_k x1 x2 x3 r)

def f47_M : List Nat := [2]
def f47_v : (List Int) → G := fun y0 => (.r (.at (.sl 2 0 (List.length y0))))
def f47_k0 : (List Int) → List (Nat × Blk) := fun y0 => [(2, (.gr (.int .i64) 3 y0 true))]
def f47_k (x1 : Option (List Int)) : (List Int) → List (Nat × Blk) := fun y0 => [(2, (.gr (.int .i64) 3 y0 true))]
def f47_A (x1 : Option (List Int)) : List G := [(.r (.at (.olst (.int .i64) x1)))]
def f47_K (x1 : Option (List Int)) : List (Nat × Blk) := []
def f47_C (x1 : Option (List Int)) (r : (List Int)) : Prop := CallOK cx 47 (f47_A x1) (f47_K x1) [] (f47_v r) (f47_k x1 r)

def f47m_v : (List Int) → G := f47_v
def f47m_k0 : (List Int) → List (Nat × Blk) := f47_k0
def f47m_k (x1 : LI) : (List Int) → List (Nat × Blk) := f47_k (some x1)
def f47m_A (x1 : LI) : List G := [(GL x1)]
def f47m_K (x1 : LI) : List (Nat × Blk) := []
def f47m_C (x1 : LI) (r : (List Int)) : Prop := CallOK cx 47 (f47m_A x1) (f47m_K x1) [] (f47m_v r) (f47m_k x1 r)

def f74_M : List Nat := [2, 23, 24]
def f74_p8_5_H (x33 : LI) (x34 x35 : Int) (x36 : LI) (x53 x56 : Int) (x1 x52 : LI) (x54 x55 : Int) (x2 : LI) : GS := ⟨[(1, (.r (.at (.ptr 23 0 0)))), (3, (GL x33)), (4, (GI x34)), (5, (GI x35)), (6, (.r (.at (.sl 2 0 (List.length x36))))), (7, (GI x53)), (8, (.r (.at (.int .i64 (w64 (x53 - (w64 ((w64 (x56 + 1)) * x35)))))))), (13, (GL x1)), (14, (.r (.at (.int .i64 (LN x1))))), (15, (GI x34)), (50, (.r (.at (.bool (decide ((w64 (x53 - (w64 ((w64 (x56 + 1)) * x35)))) ≥ 0))))))], [(2, (.gr (.int .i64) 3 ((List.set x52 (0 + (Int.toNat x53)) (w64 (x54 + x55))) : List Int) true)), (23, (.var [.cell (.lst (.int .i64) x1 false), .cell (.lst (.int .i64) x2 false)]))]⟩
def f74_p8_5_x : (List Int) → GExit := fun y0 => .normal
def f74_p8_5_s (x33 : LI) (x34 x35 : Int) (x36 : LI) (x53 x56 : Int) (x1 x52 : LI) (x54 x55 : Int) (x2 : LI) : (List Int) → GS := fun y0 => ⟨[(1, (.r (.at (.ptr 23 0 0)))), (3, (GL x33)), (4, (GI x34)), (5, (GI x35)), (6, (.r (.at (.sl 2 0 (List.length x36))))), (7, (GI x53)), (13, (GL x1)), (14, (.r (.at (.int .i64 (LN x1))))), (15, (GI x34))], [(2, (.gr (.int .i64) 3 y0 true)), (23, (.var [.cell (.lst (.int .i64) x1 false), .cell (.lst (.int .i64) x2 false)]))]⟩
def f74_p8_5_P (x33 : LI) (x34 x35 : Int) (x36 : LI) (x53 x56 : Int) (x1 x52 : LI) (x54 x55 : Int) (x2 : LI) (r : (List Int)) : Prop := Ex cx f74_M 64 (part Try.f74 8) (f74_p8_5_H x33 x34 x35 x36 x53 x56 x1 x52 x54 x55 x2) (f74_p8_5_x r) (f74_p8_5_s x33 x34 x35 x36 x53 x56 x1 x52 x54 x55 x2 r)
def f74_p5_1_H (x33 : LI) (x34 x35 : Int) (x36 x1 x2 : LI) (x53 : Int) (x52 : LI) : GS := ⟨[(1, (.r (.at (.ptr 23 0 0)))), (3, (GL x33)), (4, (GI x34)), (5, (GI x35)), (6, (.r (.at (.sl 2 0 (List.length x36))))), (7, (GI x53)), (13, (GL x1)), (14, (.r (.at (.int .i64 (LN x1))))), (15, (GI x34))], [(2, (.gr (.int .i64) 3 x52 true)), (23, (.var [.cell (.lst (.int .i64) x1 false), .cell (.lst (.int .i64) x2 false)]))]⟩
def f74_p5_1_x : (List Int) → GExit := fun y0 => (.exit 2)
def f74_p5_1_s (x33 : LI) (x34 x35 : Int) (x36 x1 x2 : LI) : (List Int) → GS := fun y0 => ⟨[(1, (.r (.at (.ptr 23 0 0)))), (6, (.r (.at (.sl 2 0 (List.length x36))))), (13, (GL x1)), (14, (.r (.at (.int .i64 (LN x1))))), (15, (GI x34))], [(2, (.gr (.int .i64) 3 y0 true)), (23, (.var [.cell (.lst (.int .i64) x1 false), .cell (.lst (.int .i64) x2 false)]))]⟩
def f74_p5_1_P (x33 : LI) (x34 x35 : Int) (x36 x1 x2 : LI) (x53 : Int) (x52 : LI) (r : (List Int)) : Prop := Lp cx f74_M 64 (part Try.f74 5) (f74_p5_1_H x33 x34 x35 x36 x1 x2 x53 x52) (f74_p5_1_x r) (f74_p5_1_s x33 x34 x35 x36 x1 x2 r)
def f74_p1_H (x1 x2 x33 : LI) (x34 : Int) : GS := ⟨[(1, (.r (.at (.ptr 23 0 0)))), (3, (GL x33)), (13, (GL x1)), (14, (.r (.at (.int .i64 (LN x1))))), (15, (GI x34))], [(23, (.var [.cell (.lst (.int .i64) x1 false), .cell (.lst (.int .i64) x2 false)]))]⟩
def f74_p1_x : (List Int) → GExit := fun y0 => (.exit 0)
def f74_p1_s (x1 x2 : LI) : (List Int) → GS := fun y0 => ⟨[(3, (GL y0))], []⟩
def f74_p1_P (x1 x2 x33 : LI) (x34 : Int) (r : (List Int)) : Prop := Lp cx f74_M 64 (part Try.f74 1) (f74_p1_H x1 x2 x33 x34) (f74_p1_x r) (f74_p1_s x1 x2 r)
def f74_v : (List Int) → G := fun y0 => (GL y0)
def f74_k0 : (List Int) → List (Nat × Blk) := fun y0 => []
def f74_k (x1 x2 : LI) : (List Int) → List (Nat × Blk) := fun y0 => []
def f74_A (x1 x2 : LI) : List G := [(.r (.agg [.cell (.lst (.int .i64) x1 false), .cell (.lst (.int .i64) x2 false)]))]
def f74_K (x1 x2 : LI) : List (Nat × Blk) := []
def f74_C (x1 x2 : LI) (r : (List Int)) : Prop := CallOK cx 74 (f74_A x1 x2) (f74_K x1 x2) [] (f74_v r) (f74_k x1 x2 r)

def f36_M : List Nat := [22]
def f36_v : (Int × Int) → G := fun (y0, y1) => (.tup [(.at (.int .i64 y0)), (.at (.int .i64 y1))])
def f36_k0 : (Int × Int) → List (Nat × Blk) := fun (y0, y1) => []
def f36_k (x1 x2 : LI) (x3 : Int) : (Int × Int) → List (Nat × Blk) := fun (y0, y1) => []
def f36_A (x1 x2 : LI) (x3 : Int) : List G := [(GL x1), (GL x2), (GI x3)]
def f36_K (x1 x2 : LI) (x3 : Int) : List (Nat × Blk) := []
def f36_C (x1 x2 : LI) (x3 : Int) (r : Int × Int) : Prop := CallOK cx 36 (f36_A x1 x2 x3) (f36_K x1 x2 x3) [] (f36_v r) (f36_k x1 x2 x3 r)

def f47_1_M : List Nat := [2]
def f47_1_v : (List Int) → G := fun y0 => (.r (.at (.sl 2 0 (List.length y0))))
def f47_1_k0 : (List Int) → List (Nat × Blk) := fun y0 => [(2, (.gr (.int .i64) 3 y0 true))]
def f47_1_k (x1 : Option (List Int)) : (List Int) → List (Nat × Blk) := fun y0 => [(2, (.gr (.int .i64) 3 y0 true))]
def f47_1_A (x1 : Option (List Int)) : List G := [(.r (.at (.olst (.int .i64) x1)))]
def f47_1_K (x1 : Option (List Int)) : List (Nat × Blk) := []
def f47_1_C (x1 : Option (List Int)) (r : (List Int)) : Prop := CallOK cx 47 (f47_1_A x1) (f47_1_K x1) [] (f47_1_v r) (f47_1_k x1 r)

def f47_1m_v : (List Int) → G := f47_1_v
def f47_1m_k0 : (List Int) → List (Nat × Blk) := f47_1_k0
def f47_1m_k (x1 : LI) : (List Int) → List (Nat × Blk) := f47_1_k (some x1)
def f47_1m_A (x1 : LI) : List G := [(GL x1)]
def f47_1m_K (x1 : LI) : List (Nat × Blk) := []
def f47_1m_C (x1 : LI) (r : (List Int)) : Prop := CallOK cx 47 (f47_1m_A x1) (f47_1m_K x1) [] (f47_1m_v r) (f47_1m_k x1 r)

def f42_M : List Nat := [2, 25]
def f42_p10_H (x3 x4 : Int) (x12 x14 : Int) (x10 : LI) (x15 x11 : Int) (x5 x6 : LI) : GS := ⟨[(2, (GI x3)), (3, (GI x4)), (8, (GI x12)), (10, (GI x14)), (11, (.r (.at (.ptr 25 0 0)))), (13, (GL x10)), (14, (GI x15)), (50, (.r (.at (.int .i64 (w64 (x11 + 1)))))), (51, (GI x15)), (72, (.r (.at (.bool (x14 != 0)))))], [(25, (.var [.cell (.lst (.int .i64) x5 false), .cell (.lst (.int .i64) x6 false)]))]⟩
def f42_p10_x : (Int × Int) → GExit := fun (y0, y1) => .normal
def f42_p10_s (x3 x4 : Int) (x12 x14 : Int) (x10 : LI) (x15 x11 : Int) (x5 x6 : LI) : (Int × Int) → GS := fun (y0, y1) => ⟨[(2, (GI x3)), (3, (GI x4)), (8, (GI y0)), (10, (GI y1)), (11, (.r (.at (.ptr 25 0 0)))), (13, (GL x10)), (14, (GI x15)), (50, (.r (.at (.int .i64 (w64 (x11 + 1)))))), (51, (GI x15))], [(25, (.var [.cell (.lst (.int .i64) x5 false), .cell (.lst (.int .i64) x6 false)]))]⟩
def f42_p10_P (x3 x4 : Int) (x12 x14 : Int) (x10 : LI) (x15 x11 : Int) (x5 x6 : LI) (r : Int × Int) : Prop := Ex cx f42_M 81 (part Try.f42 10) (f42_p10_H x3 x4 x12 x14 x10 x15 x11 x5 x6) (f42_p10_x r) (f42_p10_s x3 x4 x12 x14 x10 x15 x11 x5 x6 r)
def f42_p4_H (x3 x4 : Int) (x10 : LI) (x11 : Int) (x5 x6 : LI) (x12 x13 : Int) (x14 x15 : Int) : GS := ⟨[(2, (GI x3)), (3, (GI x4)), (8, (GI x12)), (9, (GI x13)), (10, (GI x14)), (11, (.r (.at (.ptr 25 0 0)))), (13, (GL x10)), (50, (.r (.at (.int .i64 (w64 (x11 + 1)))))), (51, (GI x15))], [(25, (.var [.cell (.lst (.int .i64) x5 false), .cell (.lst (.int .i64) x6 false)]))]⟩
def f42_p4_x : (Int × Int × Int) → GExit := fun (y0, y1, y2) => (.exit 1)
def f42_p4_s (x3 x4 : Int) (x10 : LI) (x11 : Int) (x5 x6 : LI) : (Int × Int × Int) → GS := fun (y0, y1, y2) => ⟨[(8, (GI y0)), (9, (GI y1)), (10, (GI y2))], []⟩
def f42_p4_P (x3 x4 : Int) (x10 : LI) (x11 : Int) (x5 x6 : LI) (x12 x13 : Int) (x14 x15 : Int) (r : Int × Int × Int) : Prop := Lp cx f42_M 81 (part Try.f42 4) (f42_p4_H x3 x4 x10 x11 x5 x6 x12 x13 x14 x15) (f42_p4_x r) (f42_p4_s x3 x4 x10 x11 x5 x6 r)
def f42_v : (Int × Int × Int) → G := fun (y0, y1, y2) => (.tup [(.at (.int .i64 y0)), (.at (.int .i64 y1)), (.at (.int .i64 y2))])
def f42_k0 : (Int × Int × Int) → List (Nat × Blk) := fun (y0, y1, y2) => []
def f42_k (x1 x2 : LI) (x3 x4 : Int) : (Int × Int × Int) → List (Nat × Blk) := fun (y0, y1, y2) => []
def f42_A (x1 x2 : LI) (x3 x4 : Int) : List G := [(GL x1), (GL x2), (GI x3), (GI x4)]
def f42_K (x1 x2 : LI) (x3 x4 : Int) : List (Nat × Blk) := []
def f42_C (x1 x2 : LI) (x3 x4 : Int) (r : Int × Int × Int) : Prop := CallOK cx 42 (f42_A x1 x2 x3 x4) (f42_K x1 x2 x3 x4) [] (f42_v r) (f42_k x1 x2 x3 x4 r)

def f79_M : List Nat := [28]
def f79_v : (Bool × (List Int)) → G := fun (y0, y1) => (GB y0)
def f79_k0 : (Bool × (List Int)) → List (Nat × Blk) := fun (y0, y1) => [(27, (.var [.cell (.sl 28 0 (List.length y1))])), (28, (.gr (.int .i64) 3 y1 true))]
def f79_k (x1 : Int) (x2 : LI) : (Bool × (List Int)) → List (Nat × Blk) := fun (y0, y1) => [(27, (.var [.cell (.sl 28 0 (List.length y1))])), (28, (.gr (.int .i64) 3 y1 true))]
def f79_A (x1 : Int) (x2 : LI) : List G := [(GI x1), (.r (.at (.ptr 27 0 0)))]
def f79_K (x1 : Int) (x2 : LI) : List (Nat × Blk) := [(27, (.var [.cell (.sl 28 0 (List.length x2))])), (28, (.gr (.int .i64) 3 x2 true))]
def f79_C (x1 : Int) (x2 : LI) (r : Bool × (List Int)) : Prop := CallOK cx 79 (f79_A x1 x2) (f79_K x1 x2) [28] (f79_v r) (f79_k x1 x2 r)

def f78_M : List Nat := [28, 29]
def f78_p1_H (x4 : LI) (x10 : Int) (x9 : LI) : GS := ⟨[(1, (.r (.at (.app2 (.fn 79) (.ptr 27 0 0))))), (7, (GL x4)), (8, (.r (.at (.int .i64 (LN x4))))), (9, (GI x10))], [(27, (.var [.cell (.sl 28 0 (List.length x9))])), (28, (.gr (.int .i64) 3 x9 true))]⟩
def f78_p1_x : f78_p1_R → GExit := fun
 | .c0 y0 => .ret
 | .c1 y0 => (.exit 0)
def f78_p1_s (x4 : LI) : f78_p1_R → GS := fun
 | .c0 y0 => ⟨[], [(27, (.var [.cell (.sl 28 0 (List.length y0))])), (28, (.gr (.int .i64) 3 y0 true))]⟩
 | .c1 y0 => ⟨[], [(27, (.var [.cell (.sl 28 0 (List.length y0))])), (28, (.gr (.int .i64) 3 y0 true))]⟩
def f78_p1_P (x4 : LI) (x10 : Int) (x9 : LI) (r : f78_p1_R) : Prop := Lp cx f78_M 23 (part Try.f78 1) (f78_p1_H x4 x10 x9) (f78_p1_x r) (f78_p1_s x4 r)
def f78_v : (List Int) → G := fun y0 => (.r (.at .unit0))
def f78_k0 : (List Int) → List (Nat × Blk) := fun y0 => [(27, (.var [.cell (.sl 28 0 (List.length y0))])), (28, (.gr (.int .i64) 3 y0 true))]
def f78_k (x1 x2 x3 : LI) : (List Int) → List (Nat × Blk) := fun y0 => [(27, (.var [.cell (.sl 28 0 (List.length y0))])), (28, (.gr (.int .i64) 3 y0 true))]
def f78_A (x1 x2 x3 : LI) : List G := [(.r (.agg [.cell (.lst (.int .i64) x1 false), .cell (.lst (.int .i64) x2 false)])), (.r (.at (.app2 (.fn 79) (.ptr 27 0 0))))]
def f78_K (x1 x2 x3 : LI) : List (Nat × Blk) := [(27, (.var [.cell (.sl 28 0 (List.length x3))])), (28, (.gr (.int .i64) 3 x3 true))]
def f78_C (x1 x2 x3 : LI) (r : (List Int)) : Prop := CallOK cx 78 (f78_A x1 x2 x3) (f78_K x1 x2 x3) [28] (f78_v r) (f78_k x1 x2 x3 r)

def f38_M : List Nat := [26, 27, 28]
def f38_v : ((List Int) × Int) → G := fun (y0, y1) => (.tup [(.at (.lst (.int .i64) y0 false)), (.at (.int .i64 y1))])
def f38_k0 : ((List Int) × Int) → List (Nat × Blk) := fun (y0, y1) => []
def f38_k (x1 x2 : LI) : ((List Int) × Int) → List (Nat × Blk) := fun (y0, y1) => []
def f38_A (x1 x2 : LI) : List G := [(GL x1), (GL x2)]
def f38_K (x1 x2 : LI) : List (Nat × Blk) := []
def f38_C (x1 x2 : LI) (r : (List Int) × Int) : Prop := CallOK cx 38 (f38_A x1 x2) (f38_K x1 x2) [] (f38_v r) (f38_k x1 x2 r)

def f80_M : List Nat := []
def f80_p0_H (x1 x2 : Int) (x3 x4 : Int) : GS := ⟨[(0, (GI x1)), (2, (.r (.at (.ptr 33 0 0)))), (3, (.r (.at (.ptr 32 0 0)))), (8, (.r (.at (.bool (decide (x1 ≥ x2))))))], [(30, (.var [.cell (.int .i64 x2)])), (32, (.var [.cell (.int .i64 x3)])), (33, (.var [.cell (.int .i64 x4)]))]⟩
def f80_p0_x : (Int × Int) → GExit := fun (y0, y1) => .normal
def f80_p0_s (x1 x2 : Int) (x3 x4 : Int) : (Int × Int) → GS := fun (y0, y1) => ⟨[(3, (.r (.at (.ptr 32 0 0))))], [(30, (.var [.cell (.int .i64 x2)])), (32, (.var [.cell (.int .i64 y0)])), (33, (.var [.cell (.int .i64 y1)]))]⟩
def f80_p0_P (x1 x2 : Int) (x3 x4 : Int) (r : Int × Int) : Prop := Ex cx f80_M 12 (part Try.f80 0) (f80_p0_H x1 x2 x3 x4) (f80_p0_x r) (f80_p0_s x1 x2 x3 x4 r)
def f80_v : (Bool × Int × Int) → G := fun (y0, y1, y2) => (GB y0)
def f80_k0 : (Bool × Int × Int) → List (Nat × Blk) := fun (y0, y1, y2) => [(32, (.var [.cell (.int .i64 y1)])), (33, (.var [.cell (.int .i64 y2)]))]
def f80_k (x1 x2 : Int) (x3 x4 : Int) : (Bool × Int × Int) → List (Nat × Blk) := fun (y0, y1, y2) => [(32, (.var [.cell (.int .i64 y1)])), (33, (.var [.cell (.int .i64 y2)])), (30, (.var [.cell (.int .i64 x2)]))]
def f80_A (x1 x2 : Int) (x3 x4 : Int) : List G := [(GI x1), (.r (.at (.ptr 30 0 0))), (.r (.at (.ptr 33 0 0))), (.r (.at (.ptr 32 0 0)))]
def f80_K (x1 x2 : Int) (x3 x4 : Int) : List (Nat × Blk) := [(30, (.var [.cell (.int .i64 x2)])), (32, (.var [.cell (.int .i64 x3)])), (33, (.var [.cell (.int .i64 x4)]))]
def f80_C (x1 x2 : Int) (x3 x4 : Int) (r : Bool × Int × Int) : Prop := CallOK cx 80 (f80_A x1 x2 x3 x4) (f80_K x1 x2 x3 x4) [] (f80_v r) (f80_k x1 x2 x3 x4 r)

def f78_1_M : List Nat := [34]
def f78_1_p1_H (x6 : LI) (x3 x12 : Int) (x13 x14 : Int) : GS := ⟨[(1, (.r (.at (.app2 (.app2 (.app2 (.fn 80) (.ptr 30 0 0)) (.ptr 33 0 0)) (.ptr 32 0 0))))), (7, (GL x6)), (8, (.r (.at (.int .i64 (LN x6))))), (9, (GI x12))], [(30, (.var [.cell (.int .i64 x3)])), (32, (.var [.cell (.int .i64 x13)])), (33, (.var [.cell (.int .i64 x14)]))]⟩
def f78_1_p1_x : f78_1_p1_R → GExit := fun
 | .c0 y0 y1 => .ret
 | .c1 y0 y1 => (.exit 0)
def f78_1_p1_s (x6 : LI) (x3 : Int) : f78_1_p1_R → GS := fun
 | .c0 y0 y1 => ⟨[], [(30, (.var [.cell (.int .i64 x3)])), (32, (.var [.cell (.int .i64 y0)])), (33, (.var [.cell (.int .i64 y1)]))]⟩
 | .c1 y0 y1 => ⟨[], [(30, (.var [.cell (.int .i64 x3)])), (32, (.var [.cell (.int .i64 y0)])), (33, (.var [.cell (.int .i64 y1)]))]⟩
def f78_1_p1_P (x6 : LI) (x3 x12 : Int) (x13 x14 : Int) (r : f78_1_p1_R) : Prop := Lp cx f78_1_M 23 (part Try.f78 1) (f78_1_p1_H x6 x3 x12 x13 x14) (f78_1_p1_x r) (f78_1_p1_s x6 x3 r)
def f78_1_v : (Int × Int) → G := fun (y0, y1) => (.r (.at .unit0))
def f78_1_k0 : (Int × Int) → List (Nat × Blk) := fun (y0, y1) => [(32, (.var [.cell (.int .i64 y0)])), (33, (.var [.cell (.int .i64 y1)]))]
def f78_1_k (x1 x2 : LI) (x3 x4 x5 : Int) : (Int × Int) → List (Nat × Blk) := fun (y0, y1) => [(32, (.var [.cell (.int .i64 y0)])), (33, (.var [.cell (.int .i64 y1)])), (30, (.var [.cell (.int .i64 x3)]))]
def f78_1_A (x1 x2 : LI) (x3 x4 x5 : Int) : List G := [(.r (.agg [.cell (.lst (.int .i64) x1 false), .cell (.lst (.int .i64) x2 false)])), (.r (.at (.app2 (.app2 (.app2 (.fn 80) (.ptr 30 0 0)) (.ptr 33 0 0)) (.ptr 32 0 0))))]
def f78_1_K (x1 x2 : LI) (x3 x4 x5 : Int) : List (Nat × Blk) := [(30, (.var [.cell (.int .i64 x3)])), (32, (.var [.cell (.int .i64 x4)])), (33, (.var [.cell (.int .i64 x5)]))]
def f78_1_C (x1 x2 : LI) (x3 x4 x5 : Int) (r : Int × Int) : Prop := CallOK cx 78 (f78_1_A x1 x2 x3 x4 x5) (f78_1_K x1 x2 x3 x4 x5) [] (f78_1_v r) (f78_1_k x1 x2 x3 x4 x5 r)

def f40_M : List Nat := [30, 31, 32, 33]
def f40_v : (Int × Int) → G := fun (y0, y1) => (.tup [(.at (.int .i64 y0)), (.at (.int .i64 y1))])
def f40_k0 : (Int × Int) → List (Nat × Blk) := fun (y0, y1) => []
def f40_k (x1 x2 : LI) (x3 : Int) : (Int × Int) → List (Nat × Blk) := fun (y0, y1) => []
def f40_A (x1 x2 : LI) (x3 : Int) : List G := [(GL x1), (GL x2), (GI x3)]
def f40_K (x1 x2 : LI) (x3 : Int) : List (Nat × Blk) := []
def f40_C (x1 x2 : LI) (x3 : Int) (r : Int × Int) : Prop := CallOK cx 40 (f40_A x1 x2 x3) (f40_K x1 x2 x3) [] (f40_v r) (f40_k x1 x2 x3 r)

def f23_M : List Nat := []
def f23_p2_H (x1 x2 : LI) (x3 : Int) : GS := ⟨[(0, (GL x1)), (1, (GL x2)), (5, (GI x3))], []⟩
def f23_p2_x : f23_p2_R → GExit := fun
 | .c0 => .ret
 | .c1 => (.exit 0)
def f23_p2_s (x1 x2 : LI) : f23_p2_R → GS := fun
 | .c0 => ⟨[(4, (.r (.at (.bool false))))], []⟩
 | .c1 => ⟨[], []⟩
def f23_p2_P (x1 x2 : LI) (x3 : Int) (r : f23_p2_R) : Prop := Lp cx f23_M 26 (part Try.f23 2) (f23_p2_H x1 x2 x3) (f23_p2_x r) (f23_p2_s x1 x2 r)
def f23_v : Bool → G := fun y0 => (GB y0)
def f23_k0 : Bool → List (Nat × Blk) := fun y0 => []
def f23_k (x1 x2 : LI) : Bool → List (Nat × Blk) := fun y0 => []
def f23_A (x1 x2 : LI) : List G := [(GL x1), (GL x2)]
def f23_K (x1 x2 : LI) : List (Nat × Blk) := []
def f23_C (x1 x2 : LI) (r : Bool) : Prop := CallOK cx 23 (f23_A x1 x2) (f23_K x1 x2) [] (f23_v r) (f23_k x1 x2 r)

def f16_M : List Nat := []
def f16_v : Bool → G := fun y0 => (GB y0)
def f16_k0 : Bool → List (Nat × Blk) := fun y0 => []
def f16_k : Bool → List (Nat × Blk) := fun y0 => []
def f16_A : List G := []
def f16_K : List (Nat × Blk) := []
def f16_C (r : Bool) : Prop := CallOK cx 16 (f16_A) (f16_K) [] (f16_v r) (f16_k r)

def f69_M : List Nat := []
def f69_v : Bool → G := fun y0 => (GB y0)
def f69_k0 : Bool → List (Nat × Blk) := fun y0 => []
def f69_k (x1 x2 x3 : Int) : Bool → List (Nat × Blk) := fun y0 => []
def f69_A (x1 x2 x3 : Int) : List G := [(GI x1), (GI x2), (GI x3)]
def f69_K (x1 x2 x3 : Int) : List (Nat × Blk) := []
def f69_C (x1 x2 x3 : Int) (r : Bool) : Prop := CallOK cx 69 (f69_A x1 x2 x3) (f69_K x1 x2 x3) [] (f69_v r) (f69_k x1 x2 x3 r)

def f27_M : List Nat := []
def f27_p3_H (x1 : LI) (x2 : Int) : GS := ⟨[(0, (GL x1)), (3, (GI x2))], []⟩
def f27_p3_x : f27_p3_R → GExit := fun
 | .c0 y0 => .ret
 | .c1 => (.exit 0)
def f27_p3_s (x1 : LI) : f27_p3_R → GS := fun
 | .c0 y0 => ⟨[(2, (GI y0))], []⟩
 | .c1 => ⟨[], []⟩
def f27_p3_P (x1 : LI) (x2 : Int) (r : f27_p3_R) : Prop := Lp cx f27_M 36 (part Try.f27 3) (f27_p3_H x1 x2) (f27_p3_x r) (f27_p3_s x1 r)
def f27_v : Int → G := fun y0 => (GI y0)
def f27_k0 : Int → List (Nat × Blk) := fun y0 => []
def f27_k (x1 : LI) : Int → List (Nat × Blk) := fun y0 => []
def f27_A (x1 : LI) : List G := [(GL x1)]
def f27_K (x1 : LI) : List (Nat × Blk) := []
def f27_C (x1 : LI) (r : Int) : Prop := CallOK cx 27 (f27_A x1) (f27_K x1) [] (f27_v r) (f27_k x1 r)

def f62_M : List Nat := []
def f62_p0_H (x1 : Int) (x3 : Bool) : GS := ⟨[(0, (GI x1)), (11, (.r (.at (.bool (!x3)))))], []⟩
def f62_p0_x : Int → GExit := fun y0 => .normal
def f62_p0_s (x1 : Int) (x3 : Bool) : Int → GS := fun y0 => ⟨[(0, (GI y0))], []⟩
def f62_p0_P (x1 : Int) (x3 : Bool) (r : Int) : Prop := Ex cx f62_M 13 (part Try.f62 0) (f62_p0_H x1 x3) (f62_p0_x r) (f62_p0_s x1 x3 r)
def f62_v : Int → G := fun y0 => (GI y0)
def f62_k0 : Int → List (Nat × Blk) := fun y0 => []
def f62_k (x1 x2 : Int) : Int → List (Nat × Blk) := fun y0 => []
def f62_A (x1 x2 : Int) : List G := [(GI x1), (GI x2)]
def f62_K (x1 x2 : Int) : List (Nat × Blk) := []
def f62_C (x1 x2 : Int) (r : Int) : Prop := CallOK cx 62 (f62_A x1 x2) (f62_K x1 x2) [] (f62_v r) (f62_k x1 x2 r)

def f88_M : List Nat := [36, 37, 38, 39, 40, 41, 42]
def f88_p5_H (x1 x2 : LI) (x3 x6 : Int) (x5 : LI) : GS := ⟨[(0, (GL x1)), (1, (GL x2)), (2, (GI x3)), (7, (.r (.at (.vw 36 0 0 2)))), (9, (GI x6))], [(36, (.var [.cell (.sl 37 0 (Int.toNat (w64 (x3 + 1)))), .cell (.sl 38 0 (Int.toNat (w64 (x3 + 1))))])), (37, (.gr (.int .i64) 3 ((List.replicate (Int.toNat (w64 (x3 + 1))) (0 : Int)) : List Int) true)), (38, (.gr (.int .i64) 3 x5 true))]⟩
def f88_p5_x : (List Int) → GExit := fun y0 => (.exit 2)
def f88_p5_s (x1 x2 : LI) (x3 : Int) : (List Int) → GS := fun y0 => ⟨[(0, (GL x1)), (1, (GL x2)), (2, (GI x3)), (7, (.r (.at (.vw 36 0 0 2))))], [(36, (.var [.cell (.sl 37 0 (Int.toNat (w64 (x3 + 1)))), .cell (.sl 38 0 (Int.toNat (w64 (x3 + 1))))])), (37, (.gr (.int .i64) 3 ((List.replicate (Int.toNat (w64 (x3 + 1))) (0 : Int)) : List Int) true)), (38, (.gr (.int .i64) 3 y0 true))]⟩
def f88_p5_P (x1 x2 : LI) (x3 x6 : Int) (x5 : LI) (r : (List Int)) : Prop := Lp cx f88_M 99 (part Try.f88 5) (f88_p5_H x1 x2 x3 x6 x5) (f88_p5_x r) (f88_p5_s x1 x2 x3 r)
def f88_p17_1_H (x1 x2 : LI) (x3 x16 : Int) (x15 x7 : LI) (x17 x18 : Int) : GS := ⟨[(0, (GL x1)), (1, (GL x2)), (2, (GI x3)), (7, (.r (.at (.vw 36 0 0 2)))), (10, (.r (.at (.int .i64 (w64 ((LN x1) - 1)))))), (11, (GI x16)), (12, (GI x17)), (13, (GI x18))], [(36, (.var [.cell (.sl 37 0 (Int.toNat (w64 (x3 + 1)))), .cell (.sl 38 0 (Int.toNat (w64 (x3 + 1))))])), (37, (.gr (.int .i64) 3 x15 true)), (38, (.gr (.int .i64) 3 x7 true))]⟩
def f88_p17_1_x : Int → GExit := fun y0 => (.exit 8)
def f88_p17_1_s (x1 x2 : LI) (x3 x16 : Int) (x15 x7 : LI) : Int → GS := fun y0 => ⟨[(0, (GL x1)), (1, (GL x2)), (2, (GI x3)), (7, (.r (.at (.vw 36 0 0 2)))), (10, (.r (.at (.int .i64 (w64 ((LN x1) - 1)))))), (11, (GI x16)), (12, (GI y0))], [(36, (.var [.cell (.sl 37 0 (Int.toNat (w64 (x3 + 1)))), .cell (.sl 38 0 (Int.toNat (w64 (x3 + 1))))])), (37, (.gr (.int .i64) 3 x15 true)), (38, (.gr (.int .i64) 3 x7 true))]⟩
def f88_p17_1_P (x1 x2 : LI) (x3 x16 : Int) (x15 x7 : LI) (x17 x18 : Int) (r : Int) : Prop := Lp cx f88_M 99 (part Try.f88 17) (f88_p17_1_H x1 x2 x3 x16 x15 x7 x17 x18) (f88_p17_1_x r) (f88_p17_1_s x1 x2 x3 x16 x15 x7 r)
def f88_p13_H (x1 x2 : LI) (x3 : Int) (x7 : LI) (x16 : Int) (x15 : LI) : GS := ⟨[(0, (GL x1)), (1, (GL x2)), (2, (GI x3)), (7, (.r (.at (.vw 36 0 0 2)))), (10, (.r (.at (.int .i64 (w64 ((LN x1) - 1)))))), (11, (GI x16))], [(36, (.var [.cell (.sl 37 0 (Int.toNat (w64 (x3 + 1)))), .cell (.sl 38 0 (Int.toNat (w64 (x3 + 1))))])), (37, (.gr (.int .i64) 3 x15 true)), (38, (.gr (.int .i64) 3 x7 true))]⟩
def f88_p13_x : (List Int) → GExit := fun y0 => (.exit 6)
def f88_p13_s (x1 x2 : LI) (x3 : Int) (x7 : LI) : (List Int) → GS := fun y0 => ⟨[(0, (GL x1)), (1, (GL x2)), (2, (GI x3)), (7, (.r (.at (.vw 36 0 0 2)))), (10, (.r (.at (.int .i64 (w64 ((LN x1) - 1))))))], [(36, (.var [.cell (.sl 37 0 (Int.toNat (w64 (x3 + 1)))), .cell (.sl 38 0 (Int.toNat (w64 (x3 + 1))))])), (37, (.gr (.int .i64) 3 y0 true)), (38, (.gr (.int .i64) 3 x7 true))]⟩
def f88_p13_P (x1 x2 : LI) (x3 : Int) (x7 : LI) (x16 : Int) (x15 : LI) (r : (List Int)) : Prop := Lp cx f88_M 99 (part Try.f88 13) (f88_p13_H x1 x2 x3 x7 x16 x15) (f88_p13_x r) (f88_p13_s x1 x2 x3 x7 r)
def f88_p5_1_H (x1 x2 : LI) (x3 x26 : Int) (x25 : LI) : GS := ⟨[(0, (GL x1)), (1, (GL x2)), (2, (GI x3)), (7, (.r (.at (.vw 36 0 0 3)))), (9, (GI x26))], [(36, (.var [.cell (.sl 37 0 (Int.toNat (w64 (x3 + 1)))), .cell (.sl 38 0 (Int.toNat (w64 (x3 + 1)))), .cell (.sl 39 0 (Int.toNat (w64 (x3 + 1))))])), (37, (.gr (.int .i64) 3 ((List.replicate (Int.toNat (w64 (x3 + 1))) (0 : Int)) : List Int) true)), (38, (.gr (.int .i64) 3 ((List.replicate (Int.toNat (w64 (x3 + 1))) (0 : Int)) : List Int) true)), (39, (.gr (.int .i64) 3 x25 true))]⟩
def f88_p5_1_x : (List Int) → GExit := fun y0 => (.exit 2)
def f88_p5_1_s (x1 x2 : LI) (x3 : Int) : (List Int) → GS := fun y0 => ⟨[(0, (GL x1)), (1, (GL x2)), (2, (GI x3)), (7, (.r (.at (.vw 36 0 0 3))))], [(36, (.var [.cell (.sl 37 0 (Int.toNat (w64 (x3 + 1)))), .cell (.sl 38 0 (Int.toNat (w64 (x3 + 1)))), .cell (.sl 39 0 (Int.toNat (w64 (x3 + 1))))])), (37, (.gr (.int .i64) 3 ((List.replicate (Int.toNat (w64 (x3 + 1))) (0 : Int)) : List Int) true)), (38, (.gr (.int .i64) 3 ((List.replicate (Int.toNat (w64 (x3 + 1))) (0 : Int)) : List Int) true)), (39, (.gr (.int .i64) 3 y0 true))]⟩
def f88_p5_1_P (x1 x2 : LI) (x3 x26 : Int) (x25 : LI) (r : (List Int)) : Prop := Lp cx f88_M 99 (part Try.f88 5) (f88_p5_1_H x1 x2 x3 x26 x25) (f88_p5_1_x r) (f88_p5_1_s x1 x2 x3 r)
def f88_p17_3_H (x1 x2 : LI) (x3 x36 : Int) (x35 x27 : LI) (x37 x38 : Int) : GS := ⟨[(0, (GL x1)), (1, (GL x2)), (2, (GI x3)), (7, (.r (.at (.vw 36 0 0 3)))), (10, (.r (.at (.int .i64 (w64 ((LN x1) - 1)))))), (11, (GI x36)), (12, (GI x37)), (13, (GI x38))], [(36, (.var [.cell (.sl 37 0 (Int.toNat (w64 (x3 + 1)))), .cell (.sl 38 0 (Int.toNat (w64 (x3 + 1)))), .cell (.sl 39 0 (Int.toNat (w64 (x3 + 1))))])), (37, (.gr (.int .i64) 3 ((List.replicate (Int.toNat (w64 (x3 + 1))) (0 : Int)) : List Int) true)), (38, (.gr (.int .i64) 3 x35 true)), (39, (.gr (.int .i64) 3 x27 true))]⟩
def f88_p17_3_x : Int → GExit := fun y0 => (.exit 8)
def f88_p17_3_s (x1 x2 : LI) (x3 x36 : Int) (x35 x27 : LI) : Int → GS := fun y0 => ⟨[(0, (GL x1)), (1, (GL x2)), (2, (GI x3)), (7, (.r (.at (.vw 36 0 0 3)))), (10, (.r (.at (.int .i64 (w64 ((LN x1) - 1)))))), (11, (GI x36)), (12, (GI y0))], [(36, (.var [.cell (.sl 37 0 (Int.toNat (w64 (x3 + 1)))), .cell (.sl 38 0 (Int.toNat (w64 (x3 + 1)))), .cell (.sl 39 0 (Int.toNat (w64 (x3 + 1))))])), (37, (.gr (.int .i64) 3 ((List.replicate (Int.toNat (w64 (x3 + 1))) (0 : Int)) : List Int) true)), (38, (.gr (.int .i64) 3 x35 true)), (39, (.gr (.int .i64) 3 x27 true))]⟩
def f88_p17_3_P (x1 x2 : LI) (x3 x36 : Int) (x35 x27 : LI) (x37 x38 : Int) (r : Int) : Prop := Lp cx f88_M 99 (part Try.f88 17) (f88_p17_3_H x1 x2 x3 x36 x35 x27 x37 x38) (f88_p17_3_x r) (f88_p17_3_s x1 x2 x3 x36 x35 x27 r)
def f88_p13_1_H (x1 x2 : LI) (x3 : Int) (x27 : LI) (x36 : Int) (x35 : LI) : GS := ⟨[(0, (GL x1)), (1, (GL x2)), (2, (GI x3)), (7, (.r (.at (.vw 36 0 0 3)))), (10, (.r (.at (.int .i64 (w64 ((LN x1) - 1)))))), (11, (GI x36))], [(36, (.var [.cell (.sl 37 0 (Int.toNat (w64 (x3 + 1)))), .cell (.sl 38 0 (Int.toNat (w64 (x3 + 1)))), .cell (.sl 39 0 (Int.toNat (w64 (x3 + 1))))])), (37, (.gr (.int .i64) 3 ((List.replicate (Int.toNat (w64 (x3 + 1))) (0 : Int)) : List Int) true)), (38, (.gr (.int .i64) 3 x35 true)), (39, (.gr (.int .i64) 3 x27 true))]⟩
def f88_p13_1_x : (List Int) → GExit := fun y0 => (.exit 6)
def f88_p13_1_s (x1 x2 : LI) (x3 : Int) (x27 : LI) : (List Int) → GS := fun y0 => ⟨[(0, (GL x1)), (1, (GL x2)), (2, (GI x3)), (7, (.r (.at (.vw 36 0 0 3)))), (10, (.r (.at (.int .i64 (w64 ((LN x1) - 1))))))], [(36, (.var [.cell (.sl 37 0 (Int.toNat (w64 (x3 + 1)))), .cell (.sl 38 0 (Int.toNat (w64 (x3 + 1)))), .cell (.sl 39 0 (Int.toNat (w64 (x3 + 1))))])), (37, (.gr (.int .i64) 3 ((List.replicate (Int.toNat (w64 (x3 + 1))) (0 : Int)) : List Int) true)), (38, (.gr (.int .i64) 3 y0 true)), (39, (.gr (.int .i64) 3 x27 true))]⟩
def f88_p13_1_P (x1 x2 : LI) (x3 : Int) (x27 : LI) (x36 : Int) (x35 : LI) (r : (List Int)) : Prop := Lp cx f88_M 99 (part Try.f88 13) (f88_p13_1_H x1 x2 x3 x27 x36 x35) (f88_p13_1_x r) (f88_p13_1_s x1 x2 x3 x27 r)
def f88_p17_5_H (x1 x2 : LI) (x3 x52 : Int) (x51 x43 x27 : LI) (x53 x54 : Int) : GS := ⟨[(0, (GL x1)), (1, (GL x2)), (2, (GI x3)), (7, (.r (.at (.vw 36 0 0 3)))), (10, (.r (.at (.int .i64 (w64 ((w64 ((LN x1) - 1)) - 1)))))), (11, (GI x52)), (12, (GI x53)), (13, (GI x54))], [(36, (.var [.cell (.sl 37 0 (Int.toNat (w64 (x3 + 1)))), .cell (.sl 38 0 (Int.toNat (w64 (x3 + 1)))), .cell (.sl 39 0 (Int.toNat (w64 (x3 + 1))))])), (37, (.gr (.int .i64) 3 x51 true)), (38, (.gr (.int .i64) 3 x43 true)), (39, (.gr (.int .i64) 3 x27 true))]⟩
def f88_p17_5_x : Int → GExit := fun y0 => (.exit 8)
def f88_p17_5_s (x1 x2 : LI) (x3 x52 : Int) (x51 x43 x27 : LI) : Int → GS := fun y0 => ⟨[(0, (GL x1)), (1, (GL x2)), (2, (GI x3)), (7, (.r (.at (.vw 36 0 0 3)))), (10, (.r (.at (.int .i64 (w64 ((w64 ((LN x1) - 1)) - 1)))))), (11, (GI x52)), (12, (GI y0))], [(36, (.var [.cell (.sl 37 0 (Int.toNat (w64 (x3 + 1)))), .cell (.sl 38 0 (Int.toNat (w64 (x3 + 1)))), .cell (.sl 39 0 (Int.toNat (w64 (x3 + 1))))])), (37, (.gr (.int .i64) 3 x51 true)), (38, (.gr (.int .i64) 3 x43 true)), (39, (.gr (.int .i64) 3 x27 true))]⟩
def f88_p17_5_P (x1 x2 : LI) (x3 x52 : Int) (x51 x43 x27 : LI) (x53 x54 : Int) (r : Int) : Prop := Lp cx f88_M 99 (part Try.f88 17) (f88_p17_5_H x1 x2 x3 x52 x51 x43 x27 x53 x54) (f88_p17_5_x r) (f88_p17_5_s x1 x2 x3 x52 x51 x43 x27 r)
def f88_p13_2_H (x1 x2 : LI) (x3 : Int) (x43 x27 : LI) (x52 : Int) (x51 : LI) : GS := ⟨[(0, (GL x1)), (1, (GL x2)), (2, (GI x3)), (7, (.r (.at (.vw 36 0 0 3)))), (10, (.r (.at (.int .i64 (w64 ((w64 ((LN x1) - 1)) - 1)))))), (11, (GI x52))], [(36, (.var [.cell (.sl 37 0 (Int.toNat (w64 (x3 + 1)))), .cell (.sl 38 0 (Int.toNat (w64 (x3 + 1)))), .cell (.sl 39 0 (Int.toNat (w64 (x3 + 1))))])), (37, (.gr (.int .i64) 3 x51 true)), (38, (.gr (.int .i64) 3 x43 true)), (39, (.gr (.int .i64) 3 x27 true))]⟩
def f88_p13_2_x : (List Int) → GExit := fun y0 => (.exit 6)
def f88_p13_2_s (x1 x2 : LI) (x3 : Int) (x43 x27 : LI) : (List Int) → GS := fun y0 => ⟨[(0, (GL x1)), (1, (GL x2)), (2, (GI x3)), (7, (.r (.at (.vw 36 0 0 3)))), (10, (.r (.at (.int .i64 (w64 ((w64 ((LN x1) - 1)) - 1))))))], [(36, (.var [.cell (.sl 37 0 (Int.toNat (w64 (x3 + 1)))), .cell (.sl 38 0 (Int.toNat (w64 (x3 + 1)))), .cell (.sl 39 0 (Int.toNat (w64 (x3 + 1))))])), (37, (.gr (.int .i64) 3 y0 true)), (38, (.gr (.int .i64) 3 x43 true)), (39, (.gr (.int .i64) 3 x27 true))]⟩
def f88_p13_2_P (x1 x2 : LI) (x3 : Int) (x43 x27 : LI) (x52 : Int) (x51 : LI) (r : (List Int)) : Prop := Lp cx f88_M 99 (part Try.f88 13) (f88_p13_2_H x1 x2 x3 x43 x27 x52 x51) (f88_p13_2_x r) (f88_p13_2_s x1 x2 x3 x43 x27 r)
def f88_p5_2_H (x1 x2 : LI) (x3 x62 : Int) (x61 : LI) : GS := ⟨[(0, (GL x1)), (1, (GL x2)), (2, (GI x3)), (7, (.r (.at (.vw 36 0 0 4)))), (9, (GI x62))], [(36, (.var [.cell (.sl 37 0 (Int.toNat (w64 (x3 + 1)))), .cell (.sl 38 0 (Int.toNat (w64 (x3 + 1)))), .cell (.sl 39 0 (Int.toNat (w64 (x3 + 1)))), .cell (.sl 40 0 (Int.toNat (w64 (x3 + 1))))])), (37, (.gr (.int .i64) 3 ((List.replicate (Int.toNat (w64 (x3 + 1))) (0 : Int)) : List Int) true)), (38, (.gr (.int .i64) 3 ((List.replicate (Int.toNat (w64 (x3 + 1))) (0 : Int)) : List Int) true)), (39, (.gr (.int .i64) 3 ((List.replicate (Int.toNat (w64 (x3 + 1))) (0 : Int)) : List Int) true)), (40, (.gr (.int .i64) 3 x61 true))]⟩
def f88_p5_2_x : (List Int) → GExit := fun y0 => (.exit 2)
def f88_p5_2_s (x1 x2 : LI) (x3 : Int) : (List Int) → GS := fun y0 => ⟨[(0, (GL x1)), (1, (GL x2)), (2, (GI x3)), (7, (.r (.at (.vw 36 0 0 4))))], [(36, (.var [.cell (.sl 37 0 (Int.toNat (w64 (x3 + 1)))), .cell (.sl 38 0 (Int.toNat (w64 (x3 + 1)))), .cell (.sl 39 0 (Int.toNat (w64 (x3 + 1)))), .cell (.sl 40 0 (Int.toNat (w64 (x3 + 1))))])), (37, (.gr (.int .i64) 3 ((List.replicate (Int.toNat (w64 (x3 + 1))) (0 : Int)) : List Int) true)), (38, (.gr (.int .i64) 3 ((List.replicate (Int.toNat (w64 (x3 + 1))) (0 : Int)) : List Int) true)), (39, (.gr (.int .i64) 3 ((List.replicate (Int.toNat (w64 (x3 + 1))) (0 : Int)) : List Int) true)), (40, (.gr (.int .i64) 3 y0 true))]⟩
def f88_p5_2_P (x1 x2 : LI) (x3 x62 : Int) (x61 : LI) (r : (List Int)) : Prop := Lp cx f88_M 99 (part Try.f88 5) (f88_p5_2_H x1 x2 x3 x62 x61) (f88_p5_2_x r) (f88_p5_2_s x1 x2 x3 r)
def f88_p17_7_H (x1 x2 : LI) (x3 x72 : Int) (x71 x63 : LI) (x73 x74 : Int) : GS := ⟨[(0, (GL x1)), (1, (GL x2)), (2, (GI x3)), (7, (.r (.at (.vw 36 0 0 4)))), (10, (.r (.at (.int .i64 (w64 ((LN x1) - 1)))))), (11, (GI x72)), (12, (GI x73)), (13, (GI x74))], [(36, (.var [.cell (.sl 37 0 (Int.toNat (w64 (x3 + 1)))), .cell (.sl 38 0 (Int.toNat (w64 (x3 + 1)))), .cell (.sl 39 0 (Int.toNat (w64 (x3 + 1)))), .cell (.sl 40 0 (Int.toNat (w64 (x3 + 1))))])), (37, (.gr (.int .i64) 3 ((List.replicate (Int.toNat (w64 (x3 + 1))) (0 : Int)) : List Int) true)), (38, (.gr (.int .i64) 3 ((List.replicate (Int.toNat (w64 (x3 + 1))) (0 : Int)) : List Int) true)), (39, (.gr (.int .i64) 3 x71 true)), (40, (.gr (.int .i64) 3 x63 true))]⟩
def f88_p17_7_x : Int → GExit := fun y0 => (.exit 8)
def f88_p17_7_s (x1 x2 : LI) (x3 x72 : Int) (x71 x63 : LI) : Int → GS := fun y0 => ⟨[(0, (GL x1)), (1, (GL x2)), (2, (GI x3)), (7, (.r (.at (.vw 36 0 0 4)))), (10, (.r (.at (.int .i64 (w64 ((LN x1) - 1)))))), (11, (GI x72)), (12, (GI y0))], [(36, (.var [.cell (.sl 37 0 (Int.toNat (w64 (x3 + 1)))), .cell (.sl 38 0 (Int.toNat (w64 (x3 + 1)))), .cell (.sl 39 0 (Int.toNat (w64 (x3 + 1)))), .cell (.sl 40 0 (Int.toNat (w64 (x3 + 1))))])), (37, (.gr (.int .i64) 3 ((List.replicate (Int.toNat (w64 (x3 + 1))) (0 : Int)) : List Int) true)), (38, (.gr (.int .i64) 3 ((List.replicate (Int.toNat (w64 (x3 + 1))) (0 : Int)) : List Int) true)), (39, (.gr (.int .i64) 3 x71 true)), (40, (.gr (.int .i64) 3 x63 true))]⟩
def f88_p17_7_P (x1 x2 : LI) (x3 x72 : Int) (x71 x63 : LI) (x73 x74 : Int) (r : Int) : Prop := Lp cx f88_M 99 (part Try.f88 17) (f88_p17_7_H x1 x2 x3 x72 x71 x63 x73 x74) (f88_p17_7_x r) (f88_p17_7_s x1 x2 x3 x72 x71 x63 r)
def f88_p13_3_H (x1 x2 : LI) (x3 : Int) (x63 : LI) (x72 : Int) (x71 : LI) : GS := ⟨[(0, (GL x1)), (1, (GL x2)), (2, (GI x3)), (7, (.r (.at (.vw 36 0 0 4)))), (10, (.r (.at (.int .i64 (w64 ((LN x1) - 1)))))), (11, (GI x72))], [(36, (.var [.cell (.sl 37 0 (Int.toNat (w64 (x3 + 1)))), .cell (.sl 38 0 (Int.toNat (w64 (x3 + 1)))), .cell (.sl 39 0 (Int.toNat (w64 (x3 + 1)))), .cell (.sl 40 0 (Int.toNat (w64 (x3 + 1))))])), (37, (.gr (.int .i64) 3 ((List.replicate (Int.toNat (w64 (x3 + 1))) (0 : Int)) : List Int) true)), (38, (.gr (.int .i64) 3 ((List.replicate (Int.toNat (w64 (x3 + 1))) (0 : Int)) : List Int) true)), (39, (.gr (.int .i64) 3 x71 true)), (40, (.gr (.int .i64) 3 x63 true))]⟩
def f88_p13_3_x : (List Int) → GExit := fun y0 => (.exit 6)
def f88_p13_3_s (x1 x2 : LI) (x3 : Int) (x63 : LI) : (List Int) → GS := fun y0 => ⟨[(0, (GL x1)), (1, (GL x2)), (2, (GI x3)), (7, (.r (.at (.vw 36 0 0 4)))), (10, (.r (.at (.int .i64 (w64 ((LN x1) - 1))))))], [(36, (.var [.cell (.sl 37 0 (Int.toNat (w64 (x3 + 1)))), .cell (.sl 38 0 (Int.toNat (w64 (x3 + 1)))), .cell (.sl 39 0 (Int.toNat (w64 (x3 + 1)))), .cell (.sl 40 0 (Int.toNat (w64 (x3 + 1))))])), (37, (.gr (.int .i64) 3 ((List.replicate (Int.toNat (w64 (x3 + 1))) (0 : Int)) : List Int) true)), (38, (.gr (.int .i64) 3 ((List.replicate (Int.toNat (w64 (x3 + 1))) (0 : Int)) : List Int) true)), (39, (.gr (.int .i64) 3 y0 true)), (40, (.gr (.int .i64) 3 x63 true))]⟩
def f88_p13_3_P (x1 x2 : LI) (x3 : Int) (x63 : LI) (x72 : Int) (x71 : LI) (r : (List Int)) : Prop := Lp cx f88_M 99 (part Try.f88 13) (f88_p13_3_H x1 x2 x3 x63 x72 x71) (f88_p13_3_x r) (f88_p13_3_s x1 x2 x3 x63 r)
def f88_p17_9_H (x1 x2 : LI) (x3 x88 : Int) (x87 x79 x63 : LI) (x89 x90 : Int) : GS := ⟨[(0, (GL x1)), (1, (GL x2)), (2, (GI x3)), (7, (.r (.at (.vw 36 0 0 4)))), (10, (.r (.at (.int .i64 (w64 ((w64 ((LN x1) - 1)) - 1)))))), (11, (GI x88)), (12, (GI x89)), (13, (GI x90))], [(36, (.var [.cell (.sl 37 0 (Int.toNat (w64 (x3 + 1)))), .cell (.sl 38 0 (Int.toNat (w64 (x3 + 1)))), .cell (.sl 39 0 (Int.toNat (w64 (x3 + 1)))), .cell (.sl 40 0 (Int.toNat (w64 (x3 + 1))))])), (37, (.gr (.int .i64) 3 ((List.replicate (Int.toNat (w64 (x3 + 1))) (0 : Int)) : List Int) true)), (38, (.gr (.int .i64) 3 x87 true)), (39, (.gr (.int .i64) 3 x79 true)), (40, (.gr (.int .i64) 3 x63 true))]⟩
def f88_p17_9_x : Int → GExit := fun y0 => (.exit 8)
def f88_p17_9_s (x1 x2 : LI) (x3 x88 : Int) (x87 x79 x63 : LI) : Int → GS := fun y0 => ⟨[(0, (GL x1)), (1, (GL x2)), (2, (GI x3)), (7, (.r (.at (.vw 36 0 0 4)))), (10, (.r (.at (.int .i64 (w64 ((w64 ((LN x1) - 1)) - 1)))))), (11, (GI x88)), (12, (GI y0))], [(36, (.var [.cell (.sl 37 0 (Int.toNat (w64 (x3 + 1)))), .cell (.sl 38 0 (Int.toNat (w64 (x3 + 1)))), .cell (.sl 39 0 (Int.toNat (w64 (x3 + 1)))), .cell (.sl 40 0 (Int.toNat (w64 (x3 + 1))))])), (37, (.gr (.int .i64) 3 ((List.replicate (Int.toNat (w64 (x3 + 1))) (0 : Int)) : List Int) true)), (38, (.gr (.int .i64) 3 x87 true)), (39, (.gr (.int .i64) 3 x79 true)), (40, (.gr (.int .i64) 3 x63 true))]⟩
def f88_p17_9_P (x1 x2 : LI) (x3 x88 : Int) (x87 x79 x63 : LI) (x89 x90 : Int) (r : Int) : Prop := Lp cx f88_M 99 (part Try.f88 17) (f88_p17_9_H x1 x2 x3 x88 x87 x79 x63 x89 x90) (f88_p17_9_x r) (f88_p17_9_s x1 x2 x3 x88 x87 x79 x63 r)
def f88_p13_4_H (x1 x2 : LI) (x3 : Int) (x79 x63 : LI) (x88 : Int) (x87 : LI) : GS := ⟨[(0, (GL x1)), (1, (GL x2)), (2, (GI x3)), (7, (.r (.at (.vw 36 0 0 4)))), (10, (.r (.at (.int .i64 (w64 ((w64 ((LN x1) - 1)) - 1)))))), (11, (GI x88))], [(36, (.var [.cell (.sl 37 0 (Int.toNat (w64 (x3 + 1)))), .cell (.sl 38 0 (Int.toNat (w64 (x3 + 1)))), .cell (.sl 39 0 (Int.toNat (w64 (x3 + 1)))), .cell (.sl 40 0 (Int.toNat (w64 (x3 + 1))))])), (37, (.gr (.int .i64) 3 ((List.replicate (Int.toNat (w64 (x3 + 1))) (0 : Int)) : List Int) true)), (38, (.gr (.int .i64) 3 x87 true)), (39, (.gr (.int .i64) 3 x79 true)), (40, (.gr (.int .i64) 3 x63 true))]⟩
def f88_p13_4_x : (List Int) → GExit := fun y0 => (.exit 6)
def f88_p13_4_s (x1 x2 : LI) (x3 : Int) (x79 x63 : LI) : (List Int) → GS := fun y0 => ⟨[(0, (GL x1)), (1, (GL x2)), (2, (GI x3)), (7, (.r (.at (.vw 36 0 0 4)))), (10, (.r (.at (.int .i64 (w64 ((w64 ((LN x1) - 1)) - 1))))))], [(36, (.var [.cell (.sl 37 0 (Int.toNat (w64 (x3 + 1)))), .cell (.sl 38 0 (Int.toNat (w64 (x3 + 1)))), .cell (.sl 39 0 (Int.toNat (w64 (x3 + 1)))), .cell (.sl 40 0 (Int.toNat (w64 (x3 + 1))))])), (37, (.gr (.int .i64) 3 ((List.replicate (Int.toNat (w64 (x3 + 1))) (0 : Int)) : List Int) true)), (38, (.gr (.int .i64) 3 y0 true)), (39, (.gr (.int .i64) 3 x79 true)), (40, (.gr (.int .i64) 3 x63 true))]⟩
def f88_p13_4_P (x1 x2 : LI) (x3 : Int) (x79 x63 : LI) (x88 : Int) (x87 : LI) (r : (List Int)) : Prop := Lp cx f88_M 99 (part Try.f88 13) (f88_p13_4_H x1 x2 x3 x79 x63 x88 x87) (f88_p13_4_x r) (f88_p13_4_s x1 x2 x3 x79 x63 r)
def f88_p17_11_H (x1 x2 : LI) (x3 x104 : Int) (x103 x95 : LI) (x79 x63 : LI) (x105 x106 : Int) : GS := ⟨[(0, (GL x1)), (1, (GL x2)), (2, (GI x3)), (7, (.r (.at (.vw 36 0 0 4)))), (10, (.r (.at (.int .i64 (w64 ((w64 ((w64 ((LN x1) - 1)) - 1)) - 1)))))), (11, (GI x104)), (12, (GI x105)), (13, (GI x106))], [(36, (.var [.cell (.sl 37 0 (Int.toNat (w64 (x3 + 1)))), .cell (.sl 38 0 (Int.toNat (w64 (x3 + 1)))), .cell (.sl 39 0 (Int.toNat (w64 (x3 + 1)))), .cell (.sl 40 0 (Int.toNat (w64 (x3 + 1))))])), (37, (.gr (.int .i64) 3 x103 true)), (38, (.gr (.int .i64) 3 x95 true)), (39, (.gr (.int .i64) 3 x79 true)), (40, (.gr (.int .i64) 3 x63 true))]⟩
def f88_p17_11_x : Int → GExit := fun y0 => (.exit 8)
def f88_p17_11_s (x1 x2 : LI) (x3 x104 : Int) (x103 x95 : LI) (x79 x63 : LI) : Int → GS := fun y0 => ⟨[(0, (GL x1)), (1, (GL x2)), (2, (GI x3)), (7, (.r (.at (.vw 36 0 0 4)))), (10, (.r (.at (.int .i64 (w64 ((w64 ((w64 ((LN x1) - 1)) - 1)) - 1)))))), (11, (GI x104)), (12, (GI y0))], [(36, (.var [.cell (.sl 37 0 (Int.toNat (w64 (x3 + 1)))), .cell (.sl 38 0 (Int.toNat (w64 (x3 + 1)))), .cell (.sl 39 0 (Int.toNat (w64 (x3 + 1)))), .cell (.sl 40 0 (Int.toNat (w64 (x3 + 1))))])), (37, (.gr (.int .i64) 3 x103 true)), (38, (.gr (.int .i64) 3 x95 true)), (39, (.gr (.int .i64) 3 x79 true)), (40, (.gr (.int .i64) 3 x63 true))]⟩
def f88_p17_11_P (x1 x2 : LI) (x3 x104 : Int) (x103 x95 : LI) (x79 x63 : LI) (x105 x106 : Int) (r : Int) : Prop := Lp cx f88_M 99 (part Try.f88 17) (f88_p17_11_H x1 x2 x3 x104 x103 x95 x79 x63 x105 x106) (f88_p17_11_x r) (f88_p17_11_s x1 x2 x3 x104 x103 x95 x79 x63 r)
def f88_p13_5_H (x1 x2 : LI) (x3 : Int) (x95 x79 x63 : LI) (x104 : Int) (x103 : LI) : GS := ⟨[(0, (GL x1)), (1, (GL x2)), (2, (GI x3)), (7, (.r (.at (.vw 36 0 0 4)))), (10, (.r (.at (.int .i64 (w64 ((w64 ((w64 ((LN x1) - 1)) - 1)) - 1)))))), (11, (GI x104))], [(36, (.var [.cell (.sl 37 0 (Int.toNat (w64 (x3 + 1)))), .cell (.sl 38 0 (Int.toNat (w64 (x3 + 1)))), .cell (.sl 39 0 (Int.toNat (w64 (x3 + 1)))), .cell (.sl 40 0 (Int.toNat (w64 (x3 + 1))))])), (37, (.gr (.int .i64) 3 x103 true)), (38, (.gr (.int .i64) 3 x95 true)), (39, (.gr (.int .i64) 3 x79 true)), (40, (.gr (.int .i64) 3 x63 true))]⟩
def f88_p13_5_x : (List Int) → GExit := fun y0 => (.exit 6)
def f88_p13_5_s (x1 x2 : LI) (x3 : Int) (x95 x79 x63 : LI) : (List Int) → GS := fun y0 => ⟨[(0, (GL x1)), (1, (GL x2)), (2, (GI x3)), (7, (.r (.at (.vw 36 0 0 4)))), (10, (.r (.at (.int .i64 (w64 ((w64 ((w64 ((LN x1) - 1)) - 1)) - 1))))))], [(36, (.var [.cell (.sl 37 0 (Int.toNat (w64 (x3 + 1)))), .cell (.sl 38 0 (Int.toNat (w64 (x3 + 1)))), .cell (.sl 39 0 (Int.toNat (w64 (x3 + 1)))), .cell (.sl 40 0 (Int.toNat (w64 (x3 + 1))))])), (37, (.gr (.int .i64) 3 y0 true)), (38, (.gr (.int .i64) 3 x95 true)), (39, (.gr (.int .i64) 3 x79 true)), (40, (.gr (.int .i64) 3 x63 true))]⟩
def f88_p13_5_P (x1 x2 : LI) (x3 : Int) (x95 x79 x63 : LI) (x104 : Int) (x103 : LI) (r : (List Int)) : Prop := Lp cx f88_M 99 (part Try.f88 13) (f88_p13_5_H x1 x2 x3 x95 x79 x63 x104 x103) (f88_p13_5_x r) (f88_p13_5_s x1 x2 x3 x95 x79 x63 r)
def f88_p5_3_H (x1 x2 : LI) (x3 x114 : Int) (x113 : LI) : GS := ⟨[(0, (GL x1)), (1, (GL x2)), (2, (GI x3)), (7, (.r (.at (.vw 36 0 0 5)))), (9, (GI x114))], [(36, (.var [.cell (.sl 37 0 (Int.toNat (w64 (x3 + 1)))), .cell (.sl 38 0 (Int.toNat (w64 (x3 + 1)))), .cell (.sl 39 0 (Int.toNat (w64 (x3 + 1)))), .cell (.sl 40 0 (Int.toNat (w64 (x3 + 1)))), .cell (.sl 41 0 (Int.toNat (w64 (x3 + 1))))])), (37, (.gr (.int .i64) 3 ((List.replicate (Int.toNat (w64 (x3 + 1))) (0 : Int)) : List Int) true)), (38, (.gr (.int .i64) 3 ((List.replicate (Int.toNat (w64 (x3 + 1))) (0 : Int)) : List Int) true)), (39, (.gr (.int .i64) 3 ((List.replicate (Int.toNat (w64 (x3 + 1))) (0 : Int)) : List Int) true)), (40, (.gr (.int .i64) 3 ((List.replicate (Int.toNat (w64 (x3 + 1))) (0 : Int)) : List Int) true)), (41, (.gr (.int .i64) 3 x113 true))]⟩
def f88_p5_3_x : (List Int) → GExit := fun y0 => (.exit 2)
def f88_p5_3_s (x1 x2 : LI) (x3 : Int) : (List Int) → GS := fun y0 => ⟨[(0, (GL x1)), (1, (GL x2)), (2, (GI x3)), (7, (.r (.at (.vw 36 0 0 5))))], [(36, (.var [.cell (.sl 37 0 (Int.toNat (w64 (x3 + 1)))), .cell (.sl 38 0 (Int.toNat (w64 (x3 + 1)))), .cell (.sl 39 0 (Int.toNat (w64 (x3 + 1)))), .cell (.sl 40 0 (Int.toNat (w64 (x3 + 1)))), .cell (.sl 41 0 (Int.toNat (w64 (x3 + 1))))])), (37, (.gr (.int .i64) 3 ((List.replicate (Int.toNat (w64 (x3 + 1))) (0 : Int)) : List Int) true)), (38, (.gr (.int .i64) 3 ((List.replicate (Int.toNat (w64 (x3 + 1))) (0 : Int)) : List Int) true)), (39, (.gr (.int .i64) 3 ((List.replicate (Int.toNat (w64 (x3 + 1))) (0 : Int)) : List Int) true)), (40, (.gr (.int .i64) 3 ((List.replicate (Int.toNat (w64 (x3 + 1))) (0 : Int)) : List Int) true)), (41, (.gr (.int .i64) 3 y0 true))]⟩
def f88_p5_3_P (x1 x2 : LI) (x3 x114 : Int) (x113 : LI) (r : (List Int)) : Prop := Lp cx f88_M 99 (part Try.f88 5) (f88_p5_3_H x1 x2 x3 x114 x113) (f88_p5_3_x r) (f88_p5_3_s x1 x2 x3 r)
def f88_p17_13_H (x1 x2 : LI) (x3 x124 : Int) (x123 x115 : LI) (x125 x126 : Int) : GS := ⟨[(0, (GL x1)), (1, (GL x2)), (2, (GI x3)), (7, (.r (.at (.vw 36 0 0 5)))), (10, (.r (.at (.int .i64 (w64 ((LN x1) - 1)))))), (11, (GI x124)), (12, (GI x125)), (13, (GI x126))], [(36, (.var [.cell (.sl 37 0 (Int.toNat (w64 (x3 + 1)))), .cell (.sl 38 0 (Int.toNat (w64 (x3 + 1)))), .cell (.sl 39 0 (Int.toNat (w64 (x3 + 1)))), .cell (.sl 40 0 (Int.toNat (w64 (x3 + 1)))), .cell (.sl 41 0 (Int.toNat (w64 (x3 + 1))))])), (37, (.gr (.int .i64) 3 ((List.replicate (Int.toNat (w64 (x3 + 1))) (0 : Int)) : List Int) true)), (38, (.gr (.int .i64) 3 ((List.replicate (Int.toNat (w64 (x3 + 1))) (0 : Int)) : List Int) true)), (39, (.gr (.int .i64) 3 ((List.replicate (Int.toNat (w64 (x3 + 1))) (0 : Int)) : List Int) true)), (40, (.gr (.int .i64) 3 x123 true)), (41, (.gr (.int .i64) 3 x115 true))]⟩
def f88_p17_13_x : Int → GExit := fun y0 => (.exit 8)
def f88_p17_13_s (x1 x2 : LI) (x3 x124 : Int) (x123 x115 : LI) : Int → GS := fun y0 => ⟨[(0, (GL x1)), (1, (GL x2)), (2, (GI x3)), (7, (.r (.at (.vw 36 0 0 5)))), (10, (.r (.at (.int .i64 (w64 ((LN x1) - 1)))))), (11, (GI x124)), (12, (GI y0))], [(36, (.var [.cell (.sl 37 0 (Int.toNat (w64 (x3 + 1)))), .cell (.sl 38 0 (Int.toNat (w64 (x3 + 1)))), .cell (.sl 39 0 (Int.toNat (w64 (x3 + 1)))), .cell (.sl 40 0 (Int.toNat (w64 (x3 + 1)))), .cell (.sl 41 0 (Int.toNat (w64 (x3 + 1))))])), (37, (.gr (.int .i64) 3 ((List.replicate (Int.toNat (w64 (x3 + 1))) (0 : Int)) : List Int) true)), (38, (.gr (.int .i64) 3 ((List.replicate (Int.toNat (w64 (x3 + 1))) (0 : Int)) : List Int) true)), (39, (.gr (.int .i64) 3 ((List.replicate (Int.toNat (w64 (x3 + 1))) (0 : Int)) : List Int) true)), (40, (.gr (.int .i64) 3 x123 true)), (41, (.gr (.int .i64) 3 x115 true))]⟩
def f88_p17_13_P (x1 x2 : LI) (x3 x124 : Int) (x123 x115 : LI) (x125 x126 : Int) (r : Int) : Prop := Lp cx f88_M 99 (part Try.f88 17) (f88_p17_13_H x1 x2 x3 x124 x123 x115 x125 x126) (f88_p17_13_x r) (f88_p17_13_s x1 x2 x3 x124 x123 x115 r)
def f88_p13_6_H (x1 x2 : LI) (x3 : Int) (x115 : LI) (x124 : Int) (x123 : LI) : GS := ⟨[(0, (GL x1)), (1, (GL x2)), (2, (GI x3)), (7, (.r (.at (.vw 36 0 0 5)))), (10, (.r (.at (.int .i64 (w64 ((LN x1) - 1)))))), (11, (GI x124))], [(36, (.var [.cell (.sl 37 0 (Int.toNat (w64 (x3 + 1)))), .cell (.sl 38 0 (Int.toNat (w64 (x3 + 1)))), .cell (.sl 39 0 (Int.toNat (w64 (x3 + 1)))), .cell (.sl 40 0 (Int.toNat (w64 (x3 + 1)))), .cell (.sl 41 0 (Int.toNat (w64 (x3 + 1))))])), (37, (.gr (.int .i64) 3 ((List.replicate (Int.toNat (w64 (x3 + 1))) (0 : Int)) : List Int) true)), (38, (.gr (.int .i64) 3 ((List.replicate (Int.toNat (w64 (x3 + 1))) (0 : Int)) : List Int) true)), (39, (.gr (.int .i64) 3 ((List.replicate (Int.toNat (w64 (x3 + 1))) (0 : Int)) : List Int) true)), (40, (.gr (.int .i64) 3 x123 true)), (41, (.gr (.int .i64) 3 x115 true))]⟩
def f88_p13_6_x : (List Int) → GExit := fun y0 => (.exit 6)
def f88_p13_6_s (x1 x2 : LI) (x3 : Int) (x115 : LI) : (List Int) → GS := fun y0 => ⟨[(0, (GL x1)), (1, (GL x2)), (2, (GI x3)), (7, (.r (.at (.vw 36 0 0 5)))), (10, (.r (.at (.int .i64 (w64 ((LN x1) - 1))))))], [(36, (.var [.cell (.sl 37 0 (Int.toNat (w64 (x3 + 1)))), .cell (.sl 38 0 (Int.toNat (w64 (x3 + 1)))), .cell (.sl 39 0 (Int.toNat (w64 (x3 + 1)))), .cell (.sl 40 0 (Int.toNat (w64 (x3 + 1)))), .cell (.sl 41 0 (Int.toNat (w64 (x3 + 1))))])), (37, (.gr (.int .i64) 3 ((List.replicate (Int.toNat (w64 (x3 + 1))) (0 : Int)) : List Int) true)), (38, (.gr (.int .i64) 3 ((List.replicate (Int.toNat (w64 (x3 + 1))) (0 : Int)) : List Int) true)), (39, (.gr (.int .i64) 3 ((List.replicate (Int.toNat (w64 (x3 + 1))) (0 : Int)) : List Int) true)), (40, (.gr (.int .i64) 3 y0 true)), (41, (.gr (.int .i64) 3 x115 true))]⟩
def f88_p13_6_P (x1 x2 : LI) (x3 : Int) (x115 : LI) (x124 : Int) (x123 : LI) (r : (List Int)) : Prop := Lp cx f88_M 99 (part Try.f88 13) (f88_p13_6_H x1 x2 x3 x115 x124 x123) (f88_p13_6_x r) (f88_p13_6_s x1 x2 x3 x115 r)
def f88_p17_15_H (x1 x2 : LI) (x3 x140 : Int) (x139 x131 x115 : LI) (x141 x142 : Int) : GS := ⟨[(0, (GL x1)), (1, (GL x2)), (2, (GI x3)), (7, (.r (.at (.vw 36 0 0 5)))), (10, (.r (.at (.int .i64 (w64 ((w64 ((LN x1) - 1)) - 1)))))), (11, (GI x140)), (12, (GI x141)), (13, (GI x142))], [(36, (.var [.cell (.sl 37 0 (Int.toNat (w64 (x3 + 1)))), .cell (.sl 38 0 (Int.toNat (w64 (x3 + 1)))), .cell (.sl 39 0 (Int.toNat (w64 (x3 + 1)))), .cell (.sl 40 0 (Int.toNat (w64 (x3 + 1)))), .cell (.sl 41 0 (Int.toNat (w64 (x3 + 1))))])), (37, (.gr (.int .i64) 3 ((List.replicate (Int.toNat (w64 (x3 + 1))) (0 : Int)) : List Int) true)), (38, (.gr (.int .i64) 3 ((List.replicate (Int.toNat (w64 (x3 + 1))) (0 : Int)) : List Int) true)), (39, (.gr (.int .i64) 3 x139 true)), (40, (.gr (.int .i64) 3 x131 true)), (41, (.gr (.int .i64) 3 x115 true))]⟩
def f88_p17_15_x : Int → GExit := fun y0 => (.exit 8)
def f88_p17_15_s (x1 x2 : LI) (x3 x140 : Int) (x139 x131 x115 : LI) : Int → GS := fun y0 => ⟨[(0, (GL x1)), (1, (GL x2)), (2, (GI x3)), (7, (.r (.at (.vw 36 0 0 5)))), (10, (.r (.at (.int .i64 (w64 ((w64 ((LN x1) - 1)) - 1)))))), (11, (GI x140)), (12, (GI y0))], [(36, (.var [.cell (.sl 37 0 (Int.toNat (w64 (x3 + 1)))), .cell (.sl 38 0 (Int.toNat (w64 (x3 + 1)))), .cell (.sl 39 0 (Int.toNat (w64 (x3 + 1)))), .cell (.sl 40 0 (Int.toNat (w64 (x3 + 1)))), .cell (.sl 41 0 (Int.toNat (w64 (x3 + 1))))])), (37, (.gr (.int .i64) 3 ((List.replicate (Int.toNat (w64 (x3 + 1))) (0 : Int)) : List Int) true)), (38, (.gr (.int .i64) 3 ((List.replicate (Int.toNat (w64 (x3 + 1))) (0 : Int)) : List Int) true)), (39, (.gr (.int .i64) 3 x139 true)), (40, (.gr (.int .i64) 3 x131 true)), (41, (.gr (.int .i64) 3 x115 true))]⟩
def f88_p17_15_P (x1 x2 : LI) (x3 x140 : Int) (x139 x131 x115 : LI) (x141 x142 : Int) (r : Int) : Prop := Lp cx f88_M 99 (part Try.f88 17) (f88_p17_15_H x1 x2 x3 x140 x139 x131 x115 x141 x142) (f88_p17_15_x r) (f88_p17_15_s x1 x2 x3 x140 x139 x131 x115 r)
def f88_p13_7_H (x1 x2 : LI) (x3 : Int) (x131 x115 : LI) (x140 : Int) (x139 : LI) : GS := ⟨[(0, (GL x1)), (1, (GL x2)), (2, (GI x3)), (7, (.r (.at (.vw 36 0 0 5)))), (10, (.r (.at (.int .i64 (w64 ((w64 ((LN x1) - 1)) - 1)))))), (11, (GI x140))], [(36, (.var [.cell (.sl 37 0 (Int.toNat (w64 (x3 + 1)))), .cell (.sl 38 0 (Int.toNat (w64 (x3 + 1)))), .cell (.sl 39 0 (Int.toNat (w64 (x3 + 1)))), .cell (.sl 40 0 (Int.toNat (w64 (x3 + 1)))), .cell (.sl 41 0 (Int.toNat (w64 (x3 + 1))))])), (37, (.gr (.int .i64) 3 ((List.replicate (Int.toNat (w64 (x3 + 1))) (0 : Int)) : List Int) true)), (38, (.gr (.int .i64) 3 ((List.replicate (Int.toNat (w64 (x3 + 1))) (0 : Int)) : List Int) true)), (39, (.gr (.int .i64) 3 x139 true)), (40, (.gr (.int .i64) 3 x131 true)), (41, (.gr (.int .i64) 3 x115 true))]⟩
def f88_p13_7_x : (List Int) → GExit := fun y0 => (.exit 6)
def f88_p13_7_s (x1 x2 : LI) (x3 : Int) (x131 x115 : LI) : (List Int) → GS := fun y0 => ⟨[(0, (GL x1)), (1, (GL x2)), (2, (GI x3)), (7, (.r (.at (.vw 36 0 0 5)))), (10, (.r (.at (.int .i64 (w64 ((w64 ((LN x1) - 1)) - 1))))))], [(36, (.var [.cell (.sl 37 0 (Int.toNat (w64 (x3 + 1)))), .cell (.sl 38 0 (Int.toNat (w64 (x3 + 1)))), .cell (.sl 39 0 (Int.toNat (w64 (x3 + 1)))), .cell (.sl 40 0 (Int.toNat (w64 (x3 + 1)))), .cell (.sl 41 0 (Int.toNat (w64 (x3 + 1))))])), (37, (.gr (.int .i64) 3 ((List.replicate (Int.toNat (w64 (x3 + 1))) (0 : Int)) : List Int) true)), (38, (.gr (.int .i64) 3 ((List.replicate (Int.toNat (w64 (x3 + 1))) (0 : Int)) : List Int) true)), (39, (.gr (.int .i64) 3 y0 true)), (40, (.gr (.int .i64) 3 x131 true)), (41, (.gr (.int .i64) 3 x115 true))]⟩
def f88_p13_7_P (x1 x2 : LI) (x3 : Int) (x131 x115 : LI) (x140 : Int) (x139 : LI) (r : (List Int)) : Prop := Lp cx f88_M 99 (part Try.f88 13) (f88_p13_7_H x1 x2 x3 x131 x115 x140 x139) (f88_p13_7_x r) (f88_p13_7_s x1 x2 x3 x131 x115 r)
def f88_p17_17_H (x1 x2 : LI) (x3 x156 : Int) (x155 x147 : LI) (x131 x115 : LI) (x157 x158 : Int) : GS := ⟨[(0, (GL x1)), (1, (GL x2)), (2, (GI x3)), (7, (.r (.at (.vw 36 0 0 5)))), (10, (.r (.at (.int .i64 (w64 ((w64 ((w64 ((LN x1) - 1)) - 1)) - 1)))))), (11, (GI x156)), (12, (GI x157)), (13, (GI x158))], [(36, (.var [.cell (.sl 37 0 (Int.toNat (w64 (x3 + 1)))), .cell (.sl 38 0 (Int.toNat (w64 (x3 + 1)))), .cell (.sl 39 0 (Int.toNat (w64 (x3 + 1)))), .cell (.sl 40 0 (Int.toNat (w64 (x3 + 1)))), .cell (.sl 41 0 (Int.toNat (w64 (x3 + 1))))])), (37, (.gr (.int .i64) 3 ((List.replicate (Int.toNat (w64 (x3 + 1))) (0 : Int)) : List Int) true)), (38, (.gr (.int .i64) 3 x155 true)), (39, (.gr (.int .i64) 3 x147 true)), (40, (.gr (.int .i64) 3 x131 true)), (41, (.gr (.int .i64) 3 x115 true))]⟩
def f88_p17_17_x : Int → GExit := fun y0 => (.exit 8)
def f88_p17_17_s (x1 x2 : LI) (x3 x156 : Int) (x155 x147 : LI) (x131 x115 : LI) : Int → GS := fun y0 => ⟨[(0, (GL x1)), (1, (GL x2)), (2, (GI x3)), (7, (.r (.at (.vw 36 0 0 5)))), (10, (.r (.at (.int .i64 (w64 ((w64 ((w64 ((LN x1) - 1)) - 1)) - 1)))))), (11, (GI x156)), (12, (GI y0))], [(36, (.var [.cell (.sl 37 0 (Int.toNat (w64 (x3 + 1)))), .cell (.sl 38 0 (Int.toNat (w64 (x3 + 1)))), .cell (.sl 39 0 (Int.toNat (w64 (x3 + 1)))), .cell (.sl 40 0 (Int.toNat (w64 (x3 + 1)))), .cell (.sl 41 0 (Int.toNat (w64 (x3 + 1))))])), (37, (.gr (.int .i64) 3 ((List.replicate (Int.toNat (w64 (x3 + 1))) (0 : Int)) : List Int) true)), (38, (.gr (.int .i64) 3 x155 true)), (39, (.gr (.int .i64) 3 x147 true)), (40, (.gr (.int .i64) 3 x131 true)), (41, (.gr (.int .i64) 3 x115 true))]⟩
def f88_p17_17_P (x1 x2 : LI) (x3 x156 : Int) (x155 x147 : LI) (x131 x115 : LI) (x157 x158 : Int) (r : Int) : Prop := Lp cx f88_M 99 (part Try.f88 17) (f88_p17_17_H x1 x2 x3 x156 x155 x147 x131 x115 x157 x158) (f88_p17_17_x r) (f88_p17_17_s x1 x2 x3 x156 x155 x147 x131 x115 r)
def f88_p13_8_H (x1 x2 : LI) (x3 : Int) (x147 x131 x115 : LI) (x156 : Int) (x155 : LI) : GS := ⟨[(0, (GL x1)), (1, (GL x2)), (2, (GI x3)), (7, (.r (.at (.vw 36 0 0 5)))), (10, (.r (.at (.int .i64 (w64 ((w64 ((w64 ((LN x1) - 1)) - 1)) - 1)))))), (11, (GI x156))], [(36, (.var [.cell (.sl 37 0 (Int.toNat (w64 (x3 + 1)))), .cell (.sl 38 0 (Int.toNat (w64 (x3 + 1)))), .cell (.sl 39 0 (Int.toNat (w64 (x3 + 1)))), .cell (.sl 40 0 (Int.toNat (w64 (x3 + 1)))), .cell (.sl 41 0 (Int.toNat (w64 (x3 + 1))))])), (37, (.gr (.int .i64) 3 ((List.replicate (Int.toNat (w64 (x3 + 1))) (0 : Int)) : List Int) true)), (38, (.gr (.int .i64) 3 x155 true)), (39, (.gr (.int .i64) 3 x147 true)), (40, (.gr (.int .i64) 3 x131 true)), (41, (.gr (.int .i64) 3 x115 true))]⟩
def f88_p13_8_x : (List Int) → GExit := fun y0 => (.exit 6)
def f88_p13_8_s (x1 x2 : LI) (x3 : Int) (x147 x131 x115 : LI) : (List Int) → GS := fun y0 => ⟨[(0, (GL x1)), (1, (GL x2)), (2, (GI x3)), (7, (.r (.at (.vw 36 0 0 5)))), (10, (.r (.at (.int .i64 (w64 ((w64 ((w64 ((LN x1) - 1)) - 1)) - 1))))))], [(36, (.var [.cell (.sl 37 0 (Int.toNat (w64 (x3 + 1)))), .cell (.sl 38 0 (Int.toNat (w64 (x3 + 1)))), .cell (.sl 39 0 (Int.toNat (w64 (x3 + 1)))), .cell (.sl 40 0 (Int.toNat (w64 (x3 + 1)))), .cell (.sl 41 0 (Int.toNat (w64 (x3 + 1))))])), (37, (.gr (.int .i64) 3 ((List.replicate (Int.toNat (w64 (x3 + 1))) (0 : Int)) : List Int) true)), (38, (.gr (.int .i64) 3 y0 true)), (39, (.gr (.int .i64) 3 x147 true)), (40, (.gr (.int .i64) 3 x131 true)), (41, (.gr (.int .i64) 3 x115 true))]⟩
def f88_p13_8_P (x1 x2 : LI) (x3 : Int) (x147 x131 x115 : LI) (x156 : Int) (x155 : LI) (r : (List Int)) : Prop := Lp cx f88_M 99 (part Try.f88 13) (f88_p13_8_H x1 x2 x3 x147 x131 x115 x156 x155) (f88_p13_8_x r) (f88_p13_8_s x1 x2 x3 x147 x131 x115 r)
def f88_p17_19_H (x1 x2 : LI) (x3 x172 : Int) (x171 x163 : LI) (x147 x131 x115 : LI) (x173 x174 : Int) : GS := ⟨[(0, (GL x1)), (1, (GL x2)), (2, (GI x3)), (7, (.r (.at (.vw 36 0 0 5)))), (10, (.r (.at (.int .i64 (w64 ((w64 ((w64 ((w64 ((LN x1) - 1)) - 1)) - 1)) - 1)))))), (11, (GI x172)), (12, (GI x173)), (13, (GI x174))], [(36, (.var [.cell (.sl 37 0 (Int.toNat (w64 (x3 + 1)))), .cell (.sl 38 0 (Int.toNat (w64 (x3 + 1)))), .cell (.sl 39 0 (Int.toNat (w64 (x3 + 1)))), .cell (.sl 40 0 (Int.toNat (w64 (x3 + 1)))), .cell (.sl 41 0 (Int.toNat (w64 (x3 + 1))))])), (37, (.gr (.int .i64) 3 x171 true)), (38, (.gr (.int .i64) 3 x163 true)), (39, (.gr (.int .i64) 3 x147 true)), (40, (.gr (.int .i64) 3 x131 true)), (41, (.gr (.int .i64) 3 x115 true))]⟩
def f88_p17_19_x : Int → GExit := fun y0 => (.exit 8)
def f88_p17_19_s (x1 x2 : LI) (x3 x172 : Int) (x171 x163 : LI) (x147 x131 x115 : LI) : Int → GS := fun y0 => ⟨[(0, (GL x1)), (1, (GL x2)), (2, (GI x3)), (7, (.r (.at (.vw 36 0 0 5)))), (10, (.r (.at (.int .i64 (w64 ((w64 ((w64 ((w64 ((LN x1) - 1)) - 1)) - 1)) - 1)))))), (11, (GI x172)), (12, (GI y0))], [(36, (.var [.cell (.sl 37 0 (Int.toNat (w64 (x3 + 1)))), .cell (.sl 38 0 (Int.toNat (w64 (x3 + 1)))), .cell (.sl 39 0 (Int.toNat (w64 (x3 + 1)))), .cell (.sl 40 0 (Int.toNat (w64 (x3 + 1)))), .cell (.sl 41 0 (Int.toNat (w64 (x3 + 1))))])), (37, (.gr (.int .i64) 3 x171 true)), (38, (.gr (.int .i64) 3 x163 true)), (39, (.gr (.int .i64) 3 x147 true)), (40, (.gr (.int .i64) 3 x131 true)), (41, (.gr (.int .i64) 3 x115 true))]⟩
def f88_p17_19_P (x1 x2 : LI) (x3 x172 : Int) (x171 x163 : LI) (x147 x131 x115 : LI) (x173 x174 : Int) (r : Int) : Prop := Lp cx f88_M 99 (part Try.f88 17) (f88_p17_19_H x1 x2 x3 x172 x171 x163 x147 x131 x115 x173 x174) (f88_p17_19_x r) (f88_p17_19_s x1 x2 x3 x172 x171 x163 x147 x131 x115 r)
def f88_p13_9_H (x1 x2 : LI) (x3 : Int) (x163 x147 : LI) (x131 x115 : LI) (x172 : Int) (x171 : LI) : GS := ⟨[(0, (GL x1)), (1, (GL x2)), (2, (GI x3)), (7, (.r (.at (.vw 36 0 0 5)))), (10, (.r (.at (.int .i64 (w64 ((w64 ((w64 ((w64 ((LN x1) - 1)) - 1)) - 1)) - 1)))))), (11, (GI x172))], [(36, (.var [.cell (.sl 37 0 (Int.toNat (w64 (x3 + 1)))), .cell (.sl 38 0 (Int.toNat (w64 (x3 + 1)))), .cell (.sl 39 0 (Int.toNat (w64 (x3 + 1)))), .cell (.sl 40 0 (Int.toNat (w64 (x3 + 1)))), .cell (.sl 41 0 (Int.toNat (w64 (x3 + 1))))])), (37, (.gr (.int .i64) 3 x171 true)), (38, (.gr (.int .i64) 3 x163 true)), (39, (.gr (.int .i64) 3 x147 true)), (40, (.gr (.int .i64) 3 x131 true)), (41, (.gr (.int .i64) 3 x115 true))]⟩
def f88_p13_9_x : (List Int) → GExit := fun y0 => (.exit 6)
def f88_p13_9_s (x1 x2 : LI) (x3 : Int) (x163 x147 : LI) (x131 x115 : LI) : (List Int) → GS := fun y0 => ⟨[(0, (GL x1)), (1, (GL x2)), (2, (GI x3)), (7, (.r (.at (.vw 36 0 0 5)))), (10, (.r (.at (.int .i64 (w64 ((w64 ((w64 ((w64 ((LN x1) - 1)) - 1)) - 1)) - 1))))))], [(36, (.var [.cell (.sl 37 0 (Int.toNat (w64 (x3 + 1)))), .cell (.sl 38 0 (Int.toNat (w64 (x3 + 1)))), .cell (.sl 39 0 (Int.toNat (w64 (x3 + 1)))), .cell (.sl 40 0 (Int.toNat (w64 (x3 + 1)))), .cell (.sl 41 0 (Int.toNat (w64 (x3 + 1))))])), (37, (.gr (.int .i64) 3 y0 true)), (38, (.gr (.int .i64) 3 x163 true)), (39, (.gr (.int .i64) 3 x147 true)), (40, (.gr (.int .i64) 3 x131 true)), (41, (.gr (.int .i64) 3 x115 true))]⟩
def f88_p13_9_P (x1 x2 : LI) (x3 : Int) (x163 x147 : LI) (x131 x115 : LI) (x172 : Int) (x171 : LI) (r : (List Int)) : Prop := Lp cx f88_M 99 (part Try.f88 13) (f88_p13_9_H x1 x2 x3 x163 x147 x131 x115 x172 x171) (f88_p13_9_x r) (f88_p13_9_s x1 x2 x3 x163 x147 x131 x115 r)
def f88_p5_4_H (x1 x2 : LI) (x3 x182 : Int) (x181 : LI) : GS := ⟨[(0, (GL x1)), (1, (GL x2)), (2, (GI x3)), (7, (.r (.at (.vw 36 0 0 6)))), (9, (GI x182))], [(36, (.var [.cell (.sl 37 0 (Int.toNat (w64 (x3 + 1)))), .cell (.sl 38 0 (Int.toNat (w64 (x3 + 1)))), .cell (.sl 39 0 (Int.toNat (w64 (x3 + 1)))), .cell (.sl 40 0 (Int.toNat (w64 (x3 + 1)))), .cell (.sl 41 0 (Int.toNat (w64 (x3 + 1)))), .cell (.sl 42 0 (Int.toNat (w64 (x3 + 1))))])), (37, (.gr (.int .i64) 3 ((List.replicate (Int.toNat (w64 (x3 + 1))) (0 : Int)) : List Int) true)), (38, (.gr (.int .i64) 3 ((List.replicate (Int.toNat (w64 (x3 + 1))) (0 : Int)) : List Int) true)), (39, (.gr (.int .i64) 3 ((List.replicate (Int.toNat (w64 (x3 + 1))) (0 : Int)) : List Int) true)), (40, (.gr (.int .i64) 3 ((List.replicate (Int.toNat (w64 (x3 + 1))) (0 : Int)) : List Int) true)), (41, (.gr (.int .i64) 3 ((List.replicate (Int.toNat (w64 (x3 + 1))) (0 : Int)) : List Int) true)), (42, (.gr (.int .i64) 3 x181 true))]⟩
def f88_p5_4_x : (List Int) → GExit := fun y0 => (.exit 2)
def f88_p5_4_s (x1 x2 : LI) (x3 : Int) : (List Int) → GS := fun y0 => ⟨[(0, (GL x1)), (1, (GL x2)), (2, (GI x3)), (7, (.r (.at (.vw 36 0 0 6))))], [(36, (.var [.cell (.sl 37 0 (Int.toNat (w64 (x3 + 1)))), .cell (.sl 38 0 (Int.toNat (w64 (x3 + 1)))), .cell (.sl 39 0 (Int.toNat (w64 (x3 + 1)))), .cell (.sl 40 0 (Int.toNat (w64 (x3 + 1)))), .cell (.sl 41 0 (Int.toNat (w64 (x3 + 1)))), .cell (.sl 42 0 (Int.toNat (w64 (x3 + 1))))])), (37, (.gr (.int .i64) 3 ((List.replicate (Int.toNat (w64 (x3 + 1))) (0 : Int)) : List Int) true)), (38, (.gr (.int .i64) 3 ((List.replicate (Int.toNat (w64 (x3 + 1))) (0 : Int)) : List Int) true)), (39, (.gr (.int .i64) 3 ((List.replicate (Int.toNat (w64 (x3 + 1))) (0 : Int)) : List Int) true)), (40, (.gr (.int .i64) 3 ((List.replicate (Int.toNat (w64 (x3 + 1))) (0 : Int)) : List Int) true)), (41, (.gr (.int .i64) 3 ((List.replicate (Int.toNat (w64 (x3 + 1))) (0 : Int)) : List Int) true)), (42, (.gr (.int .i64) 3 y0 true))]⟩
def f88_p5_4_P (x1 x2 : LI) (x3 x182 : Int) (x181 : LI) (r : (List Int)) : Prop := Lp cx f88_M 99 (part Try.f88 5) (f88_p5_4_H x1 x2 x3 x182 x181) (f88_p5_4_x r) (f88_p5_4_s x1 x2 x3 r)
def f88_p17_21_H (x1 x2 : LI) (x3 x192 : Int) (x191 x183 : LI) (x193 x194 : Int) : GS := ⟨[(0, (GL x1)), (1, (GL x2)), (2, (GI x3)), (7, (.r (.at (.vw 36 0 0 6)))), (10, (.r (.at (.int .i64 (w64 ((LN x1) - 1)))))), (11, (GI x192)), (12, (GI x193)), (13, (GI x194))], [(36, (.var [.cell (.sl 37 0 (Int.toNat (w64 (x3 + 1)))), .cell (.sl 38 0 (Int.toNat (w64 (x3 + 1)))), .cell (.sl 39 0 (Int.toNat (w64 (x3 + 1)))), .cell (.sl 40 0 (Int.toNat (w64 (x3 + 1)))), .cell (.sl 41 0 (Int.toNat (w64 (x3 + 1)))), .cell (.sl 42 0 (Int.toNat (w64 (x3 + 1))))])), (37, (.gr (.int .i64) 3 ((List.replicate (Int.toNat (w64 (x3 + 1))) (0 : Int)) : List Int) true)), (38, (.gr (.int .i64) 3 ((List.replicate (Int.toNat (w64 (x3 + 1))) (0 : Int)) : List Int) true)), (39, (.gr (.int .i64) 3 ((List.replicate (Int.toNat (w64 (x3 + 1))) (0 : Int)) : List Int) true)), (40, (.gr (.int .i64) 3 ((List.replicate (Int.toNat (w64 (x3 + 1))) (0 : Int)) : List Int) true)), (41, (.gr (.int .i64) 3 x191 true)), (42, (.gr (.int .i64) 3 x183 true))]⟩
def f88_p17_21_x : Int → GExit := fun y0 => (.exit 8)
def f88_p17_21_s (x1 x2 : LI) (x3 x192 : Int) (x191 x183 : LI) : Int → GS := fun y0 => ⟨[(0, (GL x1)), (1, (GL x2)), (2, (GI x3)), (7, (.r (.at (.vw 36 0 0 6)))), (10, (.r (.at (.int .i64 (w64 ((LN x1) - 1)))))), (11, (GI x192)), (12, (GI y0))], [(36, (.var [.cell (.sl 37 0 (Int.toNat (w64 (x3 + 1)))), .cell (.sl 38 0 (Int.toNat (w64 (x3 + 1)))), .cell (.sl 39 0 (Int.toNat (w64 (x3 + 1)))), .cell (.sl 40 0 (Int.toNat (w64 (x3 + 1)))), .cell (.sl 41 0 (Int.toNat (w64 (x3 + 1)))), .cell (.sl 42 0 (Int.toNat (w64 (x3 + 1))))])), (37, (.gr (.int .i64) 3 ((List.replicate (Int.toNat (w64 (x3 + 1))) (0 : Int)) : List Int) true)), (38, (.gr (.int .i64) 3 ((List.replicate (Int.toNat (w64 (x3 + 1))) (0 : Int)) : List Int) true)), (39, (.gr (.int .i64) 3 ((List.replicate (Int.toNat (w64 (x3 + 1))) (0 : Int)) : List Int) true)), (40, (.gr (.int .i64) 3 ((List.replicate (Int.toNat (w64 (x3 + 1))) (0 : Int)) : List Int) true)), (41, (.gr (.int .i64) 3 x191 true)), (42, (.gr (.int .i64) 3 x183 true))]⟩
def f88_p17_21_P (x1 x2 : LI) (x3 x192 : Int) (x191 x183 : LI) (x193 x194 : Int) (r : Int) : Prop := Lp cx f88_M 99 (part Try.f88 17) (f88_p17_21_H x1 x2 x3 x192 x191 x183 x193 x194) (f88_p17_21_x r) (f88_p17_21_s x1 x2 x3 x192 x191 x183 r)
def f88_p13_10_H (x1 x2 : LI) (x3 : Int) (x183 : LI) (x192 : Int) (x191 : LI) : GS := ⟨[(0, (GL x1)), (1, (GL x2)), (2, (GI x3)), (7, (.r (.at (.vw 36 0 0 6)))), (10, (.r (.at (.int .i64 (w64 ((LN x1) - 1)))))), (11, (GI x192))], [(36, (.var [.cell (.sl 37 0 (Int.toNat (w64 (x3 + 1)))), .cell (.sl 38 0 (Int.toNat (w64 (x3 + 1)))), .cell (.sl 39 0 (Int.toNat (w64 (x3 + 1)))), .cell (.sl 40 0 (Int.toNat (w64 (x3 + 1)))), .cell (.sl 41 0 (Int.toNat (w64 (x3 + 1)))), .cell (.sl 42 0 (Int.toNat (w64 (x3 + 1))))])), (37, (.gr (.int .i64) 3 ((List.replicate (Int.toNat (w64 (x3 + 1))) (0 : Int)) : List Int) true)), (38, (.gr (.int .i64) 3 ((List.replicate (Int.toNat (w64 (x3 + 1))) (0 : Int)) : List Int) true)), (39, (.gr (.int .i64) 3 ((List.replicate (Int.toNat (w64 (x3 + 1))) (0 : Int)) : List Int) true)), (40, (.gr (.int .i64) 3 ((List.replicate (Int.toNat (w64 (x3 + 1))) (0 : Int)) : List Int) true)), (41, (.gr (.int .i64) 3 x191 true)), (42, (.gr (.int .i64) 3 x183 true))]⟩
def f88_p13_10_x : (List Int) → GExit := fun y0 => (.exit 6)
def f88_p13_10_s (x1 x2 : LI) (x3 : Int) (x183 : LI) : (List Int) → GS := fun y0 => ⟨[(0, (GL x1)), (1, (GL x2)), (2, (GI x3)), (7, (.r (.at (.vw 36 0 0 6)))), (10, (.r (.at (.int .i64 (w64 ((LN x1) - 1))))))], [(36, (.var [.cell (.sl 37 0 (Int.toNat (w64 (x3 + 1)))), .cell (.sl 38 0 (Int.toNat (w64 (x3 + 1)))), .cell (.sl 39 0 (Int.toNat (w64 (x3 + 1)))), .cell (.sl 40 0 (Int.toNat (w64 (x3 + 1)))), .cell (.sl 41 0 (Int.toNat (w64 (x3 + 1)))), .cell (.sl 42 0 (Int.toNat (w64 (x3 + 1))))])), (37, (.gr (.int .i64) 3 ((List.replicate (Int.toNat (w64 (x3 + 1))) (0 : Int)) : List Int) true)), (38, (.gr (.int .i64) 3 ((List.replicate (Int.toNat (w64 (x3 + 1))) (0 : Int)) : List Int) true)), (39, (.gr (.int .i64) 3 ((List.replicate (Int.toNat (w64 (x3 + 1))) (0 : Int)) : List Int) true)), (40, (.gr (.int .i64) 3 ((List.replicate (Int.toNat (w64 (x3 + 1))) (0 : Int)) : List Int) true)), (41, (.gr (.int .i64) 3 y0 true)), (42, (.gr (.int .i64) 3 x183 true))]⟩
def f88_p13_10_P (x1 x2 : LI) (x3 : Int) (x183 : LI) (x192 : Int) (x191 : LI) (r : (List Int)) : Prop := Lp cx f88_M 99 (part Try.f88 13) (f88_p13_10_H x1 x2 x3 x183 x192 x191) (f88_p13_10_x r) (f88_p13_10_s x1 x2 x3 x183 r)
def f88_p17_23_H (x1 x2 : LI) (x3 x208 : Int) (x207 x199 x183 : LI) (x209 x210 : Int) : GS := ⟨[(0, (GL x1)), (1, (GL x2)), (2, (GI x3)), (7, (.r (.at (.vw 36 0 0 6)))), (10, (.r (.at (.int .i64 (w64 ((w64 ((LN x1) - 1)) - 1)))))), (11, (GI x208)), (12, (GI x209)), (13, (GI x210))], [(36, (.var [.cell (.sl 37 0 (Int.toNat (w64 (x3 + 1)))), .cell (.sl 38 0 (Int.toNat (w64 (x3 + 1)))), .cell (.sl 39 0 (Int.toNat (w64 (x3 + 1)))), .cell (.sl 40 0 (Int.toNat (w64 (x3 + 1)))), .cell (.sl 41 0 (Int.toNat (w64 (x3 + 1)))), .cell (.sl 42 0 (Int.toNat (w64 (x3 + 1))))])), (37, (.gr (.int .i64) 3 ((List.replicate (Int.toNat (w64 (x3 + 1))) (0 : Int)) : List Int) true)), (38, (.gr (.int .i64) 3 ((List.replicate (Int.toNat (w64 (x3 + 1))) (0 : Int)) : List Int) true)), (39, (.gr (.int .i64) 3 ((List.replicate (Int.toNat (w64 (x3 + 1))) (0 : Int)) : List Int) true)), (40, (.gr (.int .i64) 3 x207 true)), (41, (.gr (.int .i64) 3 x199 true)), (42, (.gr (.int .i64) 3 x183 true))]⟩
def f88_p17_23_x : Int → GExit := fun y0 => (.exit 8)
def f88_p17_23_s (x1 x2 : LI) (x3 x208 : Int) (x207 x199 x183 : LI) : Int → GS := fun y0 => ⟨[(0, (GL x1)), (1, (GL x2)), (2, (GI x3)), (7, (.r (.at (.vw 36 0 0 6)))), (10, (.r (.at (.int .i64 (w64 ((w64 ((LN x1) - 1)) - 1)))))), (11, (GI x208)), (12, (GI y0))], [(36, (.var [.cell (.sl 37 0 (Int.toNat (w64 (x3 + 1)))), .cell (.sl 38 0 (Int.toNat (w64 (x3 + 1)))), .cell (.sl 39 0 (Int.toNat (w64 (x3 + 1)))), .cell (.sl 40 0 (Int.toNat (w64 (x3 + 1)))), .cell (.sl 41 0 (Int.toNat (w64 (x3 + 1)))), .cell (.sl 42 0 (Int.toNat (w64 (x3 + 1))))])), (37, (.gr (.int .i64) 3 ((List.replicate (Int.toNat (w64 (x3 + 1))) (0 : Int)) : List Int) true)), (38, (.gr (.int .i64) 3 ((List.replicate (Int.toNat (w64 (x3 + 1))) (0 : Int)) : List Int) true)), (39, (.gr (.int .i64) 3 ((List.replicate (Int.toNat (w64 (x3 + 1))) (0 : Int)) : List Int) true)), (40, (.gr (.int .i64) 3 x207 true)), (41, (.gr (.int .i64) 3 x199 true)), (42, (.gr (.int .i64) 3 x183 true))]⟩
def f88_p17_23_P (x1 x2 : LI) (x3 x208 : Int) (x207 x199 x183 : LI) (x209 x210 : Int) (r : Int) : Prop := Lp cx f88_M 99 (part Try.f88 17) (f88_p17_23_H x1 x2 x3 x208 x207 x199 x183 x209 x210) (f88_p17_23_x r) (f88_p17_23_s x1 x2 x3 x208 x207 x199 x183 r)
def f88_p13_11_H (x1 x2 : LI) (x3 : Int) (x199 x183 : LI) (x208 : Int) (x207 : LI) : GS := ⟨[(0, (GL x1)), (1, (GL x2)), (2, (GI x3)), (7, (.r (.at (.vw 36 0 0 6)))), (10, (.r (.at (.int .i64 (w64 ((w64 ((LN x1) - 1)) - 1)))))), (11, (GI x208))], [(36, (.var [.cell (.sl 37 0 (Int.toNat (w64 (x3 + 1)))), .cell (.sl 38 0 (Int.toNat (w64 (x3 + 1)))), .cell (.sl 39 0 (Int.toNat (w64 (x3 + 1)))), .cell (.sl 40 0 (Int.toNat (w64 (x3 + 1)))), .cell (.sl 41 0 (Int.toNat (w64 (x3 + 1)))), .cell (.sl 42 0 (Int.toNat (w64 (x3 + 1))))])), (37, (.gr (.int .i64) 3 ((List.replicate (Int.toNat (w64 (x3 + 1))) (0 : Int)) : List Int) true)), (38, (.gr (.int .i64) 3 ((List.replicate (Int.toNat (w64 (x3 + 1))) (0 : Int)) : List Int) true)), (39, (.gr (.int .i64) 3 ((List.replicate (Int.toNat (w64 (x3 + 1))) (0 : Int)) : List Int) true)), (40, (.gr (.int .i64) 3 x207 true)), (41, (.gr (.int .i64) 3 x199 true)), (42, (.gr (.int .i64) 3 x183 true))]⟩
def f88_p13_11_x : (List Int) → GExit := fun y0 => (.exit 6)
def f88_p13_11_s (x1 x2 : LI) (x3 : Int) (x199 x183 : LI) : (List Int) → GS := fun y0 => ⟨[(0, (GL x1)), (1, (GL x2)), (2, (GI x3)), (7, (.r (.at (.vw 36 0 0 6)))), (10, (.r (.at (.int .i64 (w64 ((w64 ((LN x1) - 1)) - 1))))))], [(36, (.var [.cell (.sl 37 0 (Int.toNat (w64 (x3 + 1)))), .cell (.sl 38 0 (Int.toNat (w64 (x3 + 1)))), .cell (.sl 39 0 (Int.toNat (w64 (x3 + 1)))), .cell (.sl 40 0 (Int.toNat (w64 (x3 + 1)))), .cell (.sl 41 0 (Int.toNat (w64 (x3 + 1)))), .cell (.sl 42 0 (Int.toNat (w64 (x3 + 1))))])), (37, (.gr (.int .i64) 3 ((List.replicate (Int.toNat (w64 (x3 + 1))) (0 : Int)) : List Int) true)), (38, (.gr (.int .i64) 3 ((List.replicate (Int.toNat (w64 (x3 + 1))) (0 : Int)) : List Int) true)), (39, (.gr (.int .i64) 3 ((List.replicate (Int.toNat (w64 (x3 + 1))) (0 : Int)) : List Int) true)), (40, (.gr (.int .i64) 3 y0 true)), (41, (.gr (.int .i64) 3 x199 true)), (42, (.gr (.int .i64) 3 x183 true))]⟩
def f88_p13_11_P (x1 x2 : LI) (x3 : Int) (x199 x183 : LI) (x208 : Int) (x207 : LI) (r : (List Int)) : Prop := Lp cx f88_M 99 (part Try.f88 13) (f88_p13_11_H x1 x2 x3 x199 x183 x208 x207) (f88_p13_11_x r) (f88_p13_11_s x1 x2 x3 x199 x183 r)
def f88_p17_25_H (x1 x2 : LI) (x3 x224 : Int) (x223 x215 : LI) (x199 x183 : LI) (x225 x226 : Int) : GS := ⟨[(0, (GL x1)), (1, (GL x2)), (2, (GI x3)), (7, (.r (.at (.vw 36 0 0 6)))), (10, (.r (.at (.int .i64 (w64 ((w64 ((w64 ((LN x1) - 1)) - 1)) - 1)))))), (11, (GI x224)), (12, (GI x225)), (13, (GI x226))], [(36, (.var [.cell (.sl 37 0 (Int.toNat (w64 (x3 + 1)))), .cell (.sl 38 0 (Int.toNat (w64 (x3 + 1)))), .cell (.sl 39 0 (Int.toNat (w64 (x3 + 1)))), .cell (.sl 40 0 (Int.toNat (w64 (x3 + 1)))), .cell (.sl 41 0 (Int.toNat (w64 (x3 + 1)))), .cell (.sl 42 0 (Int.toNat (w64 (x3 + 1))))])), (37, (.gr (.int .i64) 3 ((List.replicate (Int.toNat (w64 (x3 + 1))) (0 : Int)) : List Int) true)), (38, (.gr (.int .i64) 3 ((List.replicate (Int.toNat (w64 (x3 + 1))) (0 : Int)) : List Int) true)), (39, (.gr (.int .i64) 3 x223 true)), (40, (.gr (.int .i64) 3 x215 true)), (41, (.gr (.int .i64) 3 x199 true)), (42, (.gr (.int .i64) 3 x183 true))]⟩
def f88_p17_25_x : Int → GExit := fun y0 => (.exit 8)
def f88_p17_25_s (x1 x2 : LI) (x3 x224 : Int) (x223 x215 : LI) (x199 x183 : LI) : Int → GS := fun y0 => ⟨[(0, (GL x1)), (1, (GL x2)), (2, (GI x3)), (7, (.r (.at (.vw 36 0 0 6)))), (10, (.r (.at (.int .i64 (w64 ((w64 ((w64 ((LN x1) - 1)) - 1)) - 1)))))), (11, (GI x224)), (12, (GI y0))], [(36, (.var [.cell (.sl 37 0 (Int.toNat (w64 (x3 + 1)))), .cell (.sl 38 0 (Int.toNat (w64 (x3 + 1)))), .cell (.sl 39 0 (Int.toNat (w64 (x3 + 1)))), .cell (.sl 40 0 (Int.toNat (w64 (x3 + 1)))), .cell (.sl 41 0 (Int.toNat (w64 (x3 + 1)))), .cell (.sl 42 0 (Int.toNat (w64 (x3 + 1))))])), (37, (.gr (.int .i64) 3 ((List.replicate (Int.toNat (w64 (x3 + 1))) (0 : Int)) : List Int) true)), (38, (.gr (.int .i64) 3 ((List.replicate (Int.toNat (w64 (x3 + 1))) (0 : Int)) : List Int) true)), (39, (.gr (.int .i64) 3 x223 true)), (40, (.gr (.int .i64) 3 x215 true)), (41, (.gr (.int .i64) 3 x199 true)), (42, (.gr (.int .i64) 3 x183 true))]⟩
def f88_p17_25_P (x1 x2 : LI) (x3 x224 : Int) (x223 x215 : LI) (x199 x183 : LI) (x225 x226 : Int) (r : Int) : Prop := Lp cx f88_M 99 (part Try.f88 17) (f88_p17_25_H x1 x2 x3 x224 x223 x215 x199 x183 x225 x226) (f88_p17_25_x r) (f88_p17_25_s x1 x2 x3 x224 x223 x215 x199 x183 r)
def f88_p13_12_H (x1 x2 : LI) (x3 : Int) (x215 x199 x183 : LI) (x224 : Int) (x223 : LI) : GS := ⟨[(0, (GL x1)), (1, (GL x2)), (2, (GI x3)), (7, (.r (.at (.vw 36 0 0 6)))), (10, (.r (.at (.int .i64 (w64 ((w64 ((w64 ((LN x1) - 1)) - 1)) - 1)))))), (11, (GI x224))], [(36, (.var [.cell (.sl 37 0 (Int.toNat (w64 (x3 + 1)))), .cell (.sl 38 0 (Int.toNat (w64 (x3 + 1)))), .cell (.sl 39 0 (Int.toNat (w64 (x3 + 1)))), .cell (.sl 40 0 (Int.toNat (w64 (x3 + 1)))), .cell (.sl 41 0 (Int.toNat (w64 (x3 + 1)))), .cell (.sl 42 0 (Int.toNat (w64 (x3 + 1))))])), (37, (.gr (.int .i64) 3 ((List.replicate (Int.toNat (w64 (x3 + 1))) (0 : Int)) : List Int) true)), (38, (.gr (.int .i64) 3 ((List.replicate (Int.toNat (w64 (x3 + 1))) (0 : Int)) : List Int) true)), (39, (.gr (.int .i64) 3 x223 true)), (40, (.gr (.int .i64) 3 x215 true)), (41, (.gr (.int .i64) 3 x199 true)), (42, (.gr (.int .i64) 3 x183 true))]⟩
def f88_p13_12_x : (List Int) → GExit := fun y0 => (.exit 6)
def f88_p13_12_s (x1 x2 : LI) (x3 : Int) (x215 x199 x183 : LI) : (List Int) → GS := fun y0 => ⟨[(0, (GL x1)), (1, (GL x2)), (2, (GI x3)), (7, (.r (.at (.vw 36 0 0 6)))), (10, (.r (.at (.int .i64 (w64 ((w64 ((w64 ((LN x1) - 1)) - 1)) - 1))))))], [(36, (.var [.cell (.sl 37 0 (Int.toNat (w64 (x3 + 1)))), .cell (.sl 38 0 (Int.toNat (w64 (x3 + 1)))), .cell (.sl 39 0 (Int.toNat (w64 (x3 + 1)))), .cell (.sl 40 0 (Int.toNat (w64 (x3 + 1)))), .cell (.sl 41 0 (Int.toNat (w64 (x3 + 1)))), .cell (.sl 42 0 (Int.toNat (w64 (x3 + 1))))])), (37, (.gr (.int .i64) 3 ((List.replicate (Int.toNat (w64 (x3 + 1))) (0 : Int)) : List Int) true)), (38, (.gr (.int .i64) 3 ((List.replicate (Int.toNat (w64 (x3 + 1))) (0 : Int)) : List Int) true)), (39, (.gr (.int .i64) 3 y0 true)), (40, (.gr (.int .i64) 3 x215 true)), (41, (.gr (.int .i64) 3 x199 true)), (42, (.gr (.int .i64) 3 x183 true))]⟩
def f88_p13_12_P (x1 x2 : LI) (x3 : Int) (x215 x199 x183 : LI) (x224 : Int) (x223 : LI) (r : (List Int)) : Prop := Lp cx f88_M 99 (part Try.f88 13) (f88_p13_12_H x1 x2 x3 x215 x199 x183 x224 x223) (f88_p13_12_x r) (f88_p13_12_s x1 x2 x3 x215 x199 x183 r)
def f88_p17_27_H (x1 x2 : LI) (x3 x240 : Int) (x239 x231 : LI) (x215 x199 x183 : LI) (x241 x242 : Int) : GS := ⟨[(0, (GL x1)), (1, (GL x2)), (2, (GI x3)), (7, (.r (.at (.vw 36 0 0 6)))), (10, (.r (.at (.int .i64 (w64 ((w64 ((w64 ((w64 ((LN x1) - 1)) - 1)) - 1)) - 1)))))), (11, (GI x240)), (12, (GI x241)), (13, (GI x242))], [(36, (.var [.cell (.sl 37 0 (Int.toNat (w64 (x3 + 1)))), .cell (.sl 38 0 (Int.toNat (w64 (x3 + 1)))), .cell (.sl 39 0 (Int.toNat (w64 (x3 + 1)))), .cell (.sl 40 0 (Int.toNat (w64 (x3 + 1)))), .cell (.sl 41 0 (Int.toNat (w64 (x3 + 1)))), .cell (.sl 42 0 (Int.toNat (w64 (x3 + 1))))])), (37, (.gr (.int .i64) 3 ((List.replicate (Int.toNat (w64 (x3 + 1))) (0 : Int)) : List Int) true)), (38, (.gr (.int .i64) 3 x239 true)), (39, (.gr (.int .i64) 3 x231 true)), (40, (.gr (.int .i64) 3 x215 true)), (41, (.gr (.int .i64) 3 x199 true)), (42, (.gr (.int .i64) 3 x183 true))]⟩
def f88_p17_27_x : Int → GExit := fun y0 => (.exit 8)
def f88_p17_27_s (x1 x2 : LI) (x3 x240 : Int) (x239 x231 : LI) (x215 x199 x183 : LI) : Int → GS := fun y0 => ⟨[(0, (GL x1)), (1, (GL x2)), (2, (GI x3)), (7, (.r (.at (.vw 36 0 0 6)))), (10, (.r (.at (.int .i64 (w64 ((w64 ((w64 ((w64 ((LN x1) - 1)) - 1)) - 1)) - 1)))))), (11, (GI x240)), (12, (GI y0))], [(36, (.var [.cell (.sl 37 0 (Int.toNat (w64 (x3 + 1)))), .cell (.sl 38 0 (Int.toNat (w64 (x3 + 1)))), .cell (.sl 39 0 (Int.toNat (w64 (x3 + 1)))), .cell (.sl 40 0 (Int.toNat (w64 (x3 + 1)))), .cell (.sl 41 0 (Int.toNat (w64 (x3 + 1)))), .cell (.sl 42 0 (Int.toNat (w64 (x3 + 1))))])), (37, (.gr (.int .i64) 3 ((List.replicate (Int.toNat (w64 (x3 + 1))) (0 : Int)) : List Int) true)), (38, (.gr (.int .i64) 3 x239 true)), (39, (.gr (.int .i64) 3 x231 true)), (40, (.gr (.int .i64) 3 x215 true)), (41, (.gr (.int .i64) 3 x199 true)), (42, (.gr (.int .i64) 3 x183 true))]⟩
def f88_p17_27_P (x1 x2 : LI) (x3 x240 : Int) (x239 x231 : LI) (x215 x199 x183 : LI) (x241 x242 : Int) (r : Int) : Prop := Lp cx f88_M 99 (part Try.f88 17) (f88_p17_27_H x1 x2 x3 x240 x239 x231 x215 x199 x183 x241 x242) (f88_p17_27_x r) (f88_p17_27_s x1 x2 x3 x240 x239 x231 x215 x199 x183 r)
def f88_p13_13_H (x1 x2 : LI) (x3 : Int) (x231 x215 : LI) (x199 x183 : LI) (x240 : Int) (x239 : LI) : GS := ⟨[(0, (GL x1)), (1, (GL x2)), (2, (GI x3)), (7, (.r (.at (.vw 36 0 0 6)))), (10, (.r (.at (.int .i64 (w64 ((w64 ((w64 ((w64 ((LN x1) - 1)) - 1)) - 1)) - 1)))))), (11, (GI x240))], [(36, (.var [.cell (.sl 37 0 (Int.toNat (w64 (x3 + 1)))), .cell (.sl 38 0 (Int.toNat (w64 (x3 + 1)))), .cell (.sl 39 0 (Int.toNat (w64 (x3 + 1)))), .cell (.sl 40 0 (Int.toNat (w64 (x3 + 1)))), .cell (.sl 41 0 (Int.toNat (w64 (x3 + 1)))), .cell (.sl 42 0 (Int.toNat (w64 (x3 + 1))))])), (37, (.gr (.int .i64) 3 ((List.replicate (Int.toNat (w64 (x3 + 1))) (0 : Int)) : List Int) true)), (38, (.gr (.int .i64) 3 x239 true)), (39, (.gr (.int .i64) 3 x231 true)), (40, (.gr (.int .i64) 3 x215 true)), (41, (.gr (.int .i64) 3 x199 true)), (42, (.gr (.int .i64) 3 x183 true))]⟩
def f88_p13_13_x : (List Int) → GExit := fun y0 => (.exit 6)
def f88_p13_13_s (x1 x2 : LI) (x3 : Int) (x231 x215 : LI) (x199 x183 : LI) : (List Int) → GS := fun y0 => ⟨[(0, (GL x1)), (1, (GL x2)), (2, (GI x3)), (7, (.r (.at (.vw 36 0 0 6)))), (10, (.r (.at (.int .i64 (w64 ((w64 ((w64 ((w64 ((LN x1) - 1)) - 1)) - 1)) - 1))))))], [(36, (.var [.cell (.sl 37 0 (Int.toNat (w64 (x3 + 1)))), .cell (.sl 38 0 (Int.toNat (w64 (x3 + 1)))), .cell (.sl 39 0 (Int.toNat (w64 (x3 + 1)))), .cell (.sl 40 0 (Int.toNat (w64 (x3 + 1)))), .cell (.sl 41 0 (Int.toNat (w64 (x3 + 1)))), .cell (.sl 42 0 (Int.toNat (w64 (x3 + 1))))])), (37, (.gr (.int .i64) 3 ((List.replicate (Int.toNat (w64 (x3 + 1))) (0 : Int)) : List Int) true)), (38, (.gr (.int .i64) 3 y0 true)), (39, (.gr (.int .i64) 3 x231 true)), (40, (.gr (.int .i64) 3 x215 true)), (41, (.gr (.int .i64) 3 x199 true)), (42, (.gr (.int .i64) 3 x183 true))]⟩
def f88_p13_13_P (x1 x2 : LI) (x3 : Int) (x231 x215 : LI) (x199 x183 : LI) (x240 : Int) (x239 : LI) (r : (List Int)) : Prop := Lp cx f88_M 99 (part Try.f88 13) (f88_p13_13_H x1 x2 x3 x231 x215 x199 x183 x240 x239) (f88_p13_13_x r) (f88_p13_13_s x1 x2 x3 x231 x215 x199 x183 r)
def f88_p17_29_H (x1 x2 : LI) (x3 x256 : Int) (x255 x247 : LI) (x231 x215 : LI) (x199 x183 : LI) (x257 x258 : Int) : GS := ⟨[(0, (GL x1)), (1, (GL x2)), (2, (GI x3)), (7, (.r (.at (.vw 36 0 0 6)))), (10, (.r (.at (.int .i64 (w64 ((w64 ((w64 ((w64 ((w64 ((LN x1) - 1)) - 1)) - 1)) - 1)) - 1)))))), (11, (GI x256)), (12, (GI x257)), (13, (GI x258))], [(36, (.var [.cell (.sl 37 0 (Int.toNat (w64 (x3 + 1)))), .cell (.sl 38 0 (Int.toNat (w64 (x3 + 1)))), .cell (.sl 39 0 (Int.toNat (w64 (x3 + 1)))), .cell (.sl 40 0 (Int.toNat (w64 (x3 + 1)))), .cell (.sl 41 0 (Int.toNat (w64 (x3 + 1)))), .cell (.sl 42 0 (Int.toNat (w64 (x3 + 1))))])), (37, (.gr (.int .i64) 3 x255 true)), (38, (.gr (.int .i64) 3 x247 true)), (39, (.gr (.int .i64) 3 x231 true)), (40, (.gr (.int .i64) 3 x215 true)), (41, (.gr (.int .i64) 3 x199 true)), (42, (.gr (.int .i64) 3 x183 true))]⟩
def f88_p17_29_x : Int → GExit := fun y0 => (.exit 8)
def f88_p17_29_s (x1 x2 : LI) (x3 x256 : Int) (x255 x247 : LI) (x231 x215 : LI) (x199 x183 : LI) : Int → GS := fun y0 => ⟨[(0, (GL x1)), (1, (GL x2)), (2, (GI x3)), (7, (.r (.at (.vw 36 0 0 6)))), (10, (.r (.at (.int .i64 (w64 ((w64 ((w64 ((w64 ((w64 ((LN x1) - 1)) - 1)) - 1)) - 1)) - 1)))))), (11, (GI x256)), (12, (GI y0))], [(36, (.var [.cell (.sl 37 0 (Int.toNat (w64 (x3 + 1)))), .cell (.sl 38 0 (Int.toNat (w64 (x3 + 1)))), .cell (.sl 39 0 (Int.toNat (w64 (x3 + 1)))), .cell (.sl 40 0 (Int.toNat (w64 (x3 + 1)))), .cell (.sl 41 0 (Int.toNat (w64 (x3 + 1)))), .cell (.sl 42 0 (Int.toNat (w64 (x3 + 1))))])), (37, (.gr (.int .i64) 3 x255 true)), (38, (.gr (.int .i64) 3 x247 true)), (39, (.gr (.int .i64) 3 x231 true)), (40, (.gr (.int .i64) 3 x215 true)), (41, (.gr (.int .i64) 3 x199 true)), (42, (.gr (.int .i64) 3 x183 true))]⟩
def f88_p17_29_P (x1 x2 : LI) (x3 x256 : Int) (x255 x247 : LI) (x231 x215 : LI) (x199 x183 : LI) (x257 x258 : Int) (r : Int) : Prop := Lp cx f88_M 99 (part Try.f88 17) (f88_p17_29_H x1 x2 x3 x256 x255 x247 x231 x215 x199 x183 x257 x258) (f88_p17_29_x r) (f88_p17_29_s x1 x2 x3 x256 x255 x247 x231 x215 x199 x183 r)
def f88_p13_14_H (x1 x2 : LI) (x3 : Int) (x247 x231 : LI) (x215 x199 x183 : LI) (x256 : Int) (x255 : LI) : GS := ⟨[(0, (GL x1)), (1, (GL x2)), (2, (GI x3)), (7, (.r (.at (.vw 36 0 0 6)))), (10, (.r (.at (.int .i64 (w64 ((w64 ((w64 ((w64 ((w64 ((LN x1) - 1)) - 1)) - 1)) - 1)) - 1)))))), (11, (GI x256))], [(36, (.var [.cell (.sl 37 0 (Int.toNat (w64 (x3 + 1)))), .cell (.sl 38 0 (Int.toNat (w64 (x3 + 1)))), .cell (.sl 39 0 (Int.toNat (w64 (x3 + 1)))), .cell (.sl 40 0 (Int.toNat (w64 (x3 + 1)))), .cell (.sl 41 0 (Int.toNat (w64 (x3 + 1)))), .cell (.sl 42 0 (Int.toNat (w64 (x3 + 1))))])), (37, (.gr (.int .i64) 3 x255 true)), (38, (.gr (.int .i64) 3 x247 true)), (39, (.gr (.int .i64) 3 x231 true)), (40, (.gr (.int .i64) 3 x215 true)), (41, (.gr (.int .i64) 3 x199 true)), (42, (.gr (.int .i64) 3 x183 true))]⟩
def f88_p13_14_x : (List Int) → GExit := fun y0 => (.exit 6)
def f88_p13_14_s (x1 x2 : LI) (x3 : Int) (x247 x231 : LI) (x215 x199 x183 : LI) : (List Int) → GS := fun y0 => ⟨[(0, (GL x1)), (1, (GL x2)), (2, (GI x3)), (7, (.r (.at (.vw 36 0 0 6)))), (10, (.r (.at (.int .i64 (w64 ((w64 ((w64 ((w64 ((w64 ((LN x1) - 1)) - 1)) - 1)) - 1)) - 1))))))], [(36, (.var [.cell (.sl 37 0 (Int.toNat (w64 (x3 + 1)))), .cell (.sl 38 0 (Int.toNat (w64 (x3 + 1)))), .cell (.sl 39 0 (Int.toNat (w64 (x3 + 1)))), .cell (.sl 40 0 (Int.toNat (w64 (x3 + 1)))), .cell (.sl 41 0 (Int.toNat (w64 (x3 + 1)))), .cell (.sl 42 0 (Int.toNat (w64 (x3 + 1))))])), (37, (.gr (.int .i64) 3 y0 true)), (38, (.gr (.int .i64) 3 x247 true)), (39, (.gr (.int .i64) 3 x231 true)), (40, (.gr (.int .i64) 3 x215 true)), (41, (.gr (.int .i64) 3 x199 true)), (42, (.gr (.int .i64) 3 x183 true))]⟩
def f88_p13_14_P (x1 x2 : LI) (x3 : Int) (x247 x231 : LI) (x215 x199 x183 : LI) (x256 : Int) (x255 : LI) (r : (List Int)) : Prop := Lp cx f88_M 99 (part Try.f88 13) (f88_p13_14_H x1 x2 x3 x247 x231 x215 x199 x183 x256 x255) (f88_p13_14_x r) (f88_p13_14_s x1 x2 x3 x247 x231 x215 x199 x183 r)
def f88_v : (List (List Int)) → G := fun y0 => (.r (.at (.lst (.list (.int .i64)) y0 false)))
def f88_k0 : (List (List Int)) → List (Nat × Blk) := fun y0 => []
def f88_k (x1 x2 : LI) (x3 : Int) : (List (List Int)) → List (Nat × Blk) := fun y0 => []
def f88_A (x1 x2 : LI) (x3 : Int) : List G := [(GL x1), (GL x2), (GI x3)]
def f88_K (x1 x2 : LI) (x3 : Int) : List (Nat × Blk) := []
def f88_C (x1 x2 : LI) (x3 : Int) (r : (List (List Int))) : Prop := CallOK cx 88 (f88_A x1 x2 x3) (f88_K x1 x2 x3) [] (f88_v r) (f88_k x1 x2 x3 r)

def f63_M : List Nat := [43]
def f63_p6_1_H (x1 : LI) (x18 : Int) (x4 : LL) (x17 : LI) (x19 x20 : Int) : GS := ⟨[(0, (GL x1)), (2, (GI x18)), (8, (.r (.at (.lst (.list (.int .i64)) x4 false)))), (9, (.r (.at (.sl 43 0 (List.length x17))))), (10, (GI x19)), (11, (GI x20))], [(43, (.gr (.int .i64) 3 x17 true))]⟩
def f63_p6_1_x : Int → GExit := fun y0 => (.exit 2)
def f63_p6_1_s (x1 : LI) (x18 : Int) (x4 : LL) (x17 : LI) (x19 : Int) : Int → GS := fun y0 => ⟨[(0, (GL x1)), (2, (GI x18)), (8, (.r (.at (.lst (.list (.int .i64)) x4 false)))), (9, (.r (.at (.sl 43 0 (List.length x17))))), (10, (GI x19)), (11, (GI y0))], [(43, (.gr (.int .i64) 3 x17 true))]⟩
def f63_p6_1_P (x1 : LI) (x18 : Int) (x4 : LL) (x17 : LI) (x19 x20 : Int) (r : Int) : Prop := Lp cx f63_M 79 (part Try.f63 6) (f63_p6_1_H x1 x18 x4 x17 x19 x20) (f63_p6_1_x r) (f63_p6_1_s x1 x18 x4 x17 x19 r)
def f63_p2_H (x1 : LI) (x4 : LL) (x18 x19 : Int) (x17 : LI) : GS := ⟨[(0, (GL x1)), (2, (GI x18)), (8, (.r (.at (.lst (.list (.int .i64)) x4 false)))), (9, (.r (.at (.sl 43 0 (List.length x17))))), (10, (GI x19))], [(43, (.gr (.int .i64) 3 x17 true))]⟩
def f63_p2_x : (List Int) → GExit := fun y0 => (.exit 0)
def f63_p2_s (x1 : LI) (x4 : LL) : (List Int) → GS := fun y0 => ⟨[(9, (.r (.at (.sl 43 0 (List.length y0)))))], [(43, (.gr (.int .i64) 3 y0 true))]⟩
def f63_p2_P (x1 : LI) (x4 : LL) (x18 x19 : Int) (x17 : LI) (r : (List Int)) : Prop := Lp cx f63_M 79 (part Try.f63 2) (f63_p2_H x1 x4 x18 x19 x17) (f63_p2_x r) (f63_p2_s x1 x4 r)
def f63_v : ((List Int) × Int) → G := fun (y0, y1) => (.tup [(.at (.lst (.int .i64) y0 false)), (.at (.int .i64 y1))])
def f63_k0 : ((List Int) × Int) → List (Nat × Blk) := fun (y0, y1) => []
def f63_k (x1 x2 : LI) (x3 : Int) : ((List Int) × Int) → List (Nat × Blk) := fun (y0, y1) => []
def f63_A (x1 x2 : LI) (x3 : Int) : List G := [(GL x1), (GL x2), (GI x3)]
def f63_K (x1 x2 : LI) (x3 : Int) : List (Nat × Blk) := []
def f63_C (x1 x2 : LI) (x3 : Int) (r : (List Int) × Int) : Prop := CallOK cx 63 (f63_A x1 x2 x3) (f63_K x1 x2 x3) [] (f63_v r) (f63_k x1 x2 x3 r)

def f75_M : List Nat := []
def f75_p0_H (x2 : LI) (x3 : Int) (x1 : LI) : GS := ⟨[(1, (GL x2)), (5, (GI x3)), (17, (.r (.at (.bool ((LN x2) != (LN x1))))))], []⟩
def f75_p0_x : Int → GExit := fun y0 => .normal
def f75_p0_s (x2 : LI) (x3 : Int) (x1 : LI) : Int → GS := fun y0 => ⟨[(1, (GL x2)), (5, (GI y0))], []⟩
def f75_p0_P (x2 : LI) (x3 : Int) (x1 : LI) (r : Int) : Prop := Ex cx f75_M 35 (part Try.f75 0) (f75_p0_H x2 x3 x1) (f75_p0_x r) (f75_p0_s x2 x3 x1 r)
def f75_p5_H (x2 : LI) (x5 x6 : Int) (x8 : Bool) : GS := ⟨[(1, (GL x2)), (5, (GI x5)), (6, (GI x6)), (33, (.r (.at (.bool (!x8)))))], []⟩
def f75_p5_x : Int → GExit := fun y0 => .normal
def f75_p5_s (x2 : LI) (x5 x6 : Int) (x8 : Bool) : Int → GS := fun y0 => ⟨[(1, (GL x2)), (5, (GI y0)), (6, (GI x6))], []⟩
def f75_p5_P (x2 : LI) (x5 x6 : Int) (x8 : Bool) (r : Int) : Prop := Ex cx f75_M 35 (part Try.f75 5) (f75_p5_H x2 x5 x6 x8) (f75_p5_x r) (f75_p5_s x2 x5 x6 x8 r)
def f75_p2_H (x2 : LI) (x5 x6 : Int) : GS := ⟨[(1, (GL x2)), (5, (GI x5)), (6, (GI x6))], []⟩
def f75_p2_x : Int → GExit := fun y0 => (.exit 0)
def f75_p2_s (x2 : LI) : Int → GS := fun y0 => ⟨[(5, (GI y0))], []⟩
def f75_p2_P (x2 : LI) (x5 x6 : Int) (r : Int) : Prop := Lp cx f75_M 35 (part Try.f75 2) (f75_p2_H x2 x5 x6) (f75_p2_x r) (f75_p2_s x2 r)
def f75_p5_1_H (x2 : LI) (x11 x12 : Int) (x14 : Bool) : GS := ⟨[(1, (GL x2)), (5, (GI x11)), (6, (GI x12)), (33, (.r (.at (.bool (!x14)))))], []⟩
def f75_p5_1_x : Int → GExit := fun y0 => .normal
def f75_p5_1_s (x2 : LI) (x11 x12 : Int) (x14 : Bool) : Int → GS := fun y0 => ⟨[(1, (GL x2)), (5, (GI y0)), (6, (GI x12))], []⟩
def f75_p5_1_P (x2 : LI) (x11 x12 : Int) (x14 : Bool) (r : Int) : Prop := Ex cx f75_M 35 (part Try.f75 5) (f75_p5_1_H x2 x11 x12 x14) (f75_p5_1_x r) (f75_p5_1_s x2 x11 x12 x14 r)
def f75_p2_1_H (x2 : LI) (x11 x12 : Int) : GS := ⟨[(1, (GL x2)), (5, (GI x11)), (6, (GI x12))], []⟩
def f75_p2_1_x : Int → GExit := fun y0 => (.exit 0)
def f75_p2_1_s (x2 : LI) : Int → GS := fun y0 => ⟨[(5, (GI y0))], []⟩
def f75_p2_1_P (x2 : LI) (x11 x12 : Int) (r : Int) : Prop := Lp cx f75_M 35 (part Try.f75 2) (f75_p2_1_H x2 x11 x12) (f75_p2_1_x r) (f75_p2_1_s x2 r)
def f75_v : Int → G := fun y0 => (GI y0)
def f75_k0 : Int → List (Nat × Blk) := fun y0 => []
def f75_k (x1 x2 : LI) : Int → List (Nat × Blk) := fun y0 => []
def f75_A (x1 x2 : LI) : List G := [(GL x1), (GL x2)]
def f75_K (x1 x2 : LI) : List (Nat × Blk) := []
def f75_C (x1 x2 : LI) (r : Int) : Prop := CallOK cx 75 (f75_A x1 x2) (f75_K x1 x2) [] (f75_v r) (f75_k x1 x2 r)

def f56_M : List Nat := []
def f56_v : ((List Int) × Int) → G := fun (y0, y1) => (.tup [(.at (.lst (.int .i64) y0 false)), (.at (.int .i64 y1))])
def f56_k0 : ((List Int) × Int) → List (Nat × Blk) := fun (y0, y1) => []
def f56_k (x1 x2 : LI) (x3 : Int) : ((List Int) × Int) → List (Nat × Blk) := fun (y0, y1) => []
def f56_A (x1 x2 : LI) (x3 : Int) : List G := [(GL x1), (GL x2), (GI x3)]
def f56_K (x1 x2 : LI) (x3 : Int) : List (Nat × Blk) := []
def f56_C (x1 x2 : LI) (x3 : Int) (r : (List Int) × Int) : Prop := CallOK cx 56 (f56_A x1 x2 x3) (f56_K x1 x2 x3) [] (f56_v r) (f56_k x1 x2 x3 r)

def f57_M : List Nat := [46]
def f57_p4_H (x4 x5 x6 : LI) (x8 x9 : Int) : GS := ⟨[(2, (GI x8)), (9, (.r (.at (.ptr 46 0 0)))), (30, (GL x4)), (31, (.r (.at (.int .i64 (LN x4))))), (32, (GI x9))], [(46, (.var [.cell (.lst (.int .i64) x5 false), .cell (.lst (.int .i64) x6 false)]))]⟩
def f57_p4_x : f57_p4_R → GExit := fun
 | .c0 => .ret
 | .c1 y0 => (.exit 1)
def f57_p4_s (x4 x5 x6 : LI) : f57_p4_R → GS := fun
 | .c0 => ⟨[(8, (.r (.at (.int .i64 1))))], []⟩
 | .c1 y0 => ⟨[(2, (GI y0))], []⟩
def f57_p4_P (x4 x5 x6 : LI) (x8 x9 : Int) (r : f57_p4_R) : Prop := Lp cx f57_M 57 (part Try.f57 4) (f57_p4_H x4 x5 x6 x8 x9) (f57_p4_x r) (f57_p4_s x4 x5 x6 r)
def f57_v : Int → G := fun y0 => (GI y0)
def f57_k0 : Int → List (Nat × Blk) := fun y0 => []
def f57_k (x1 x2 : LI) (x3 : Int) (x4 : LI) : Int → List (Nat × Blk) := fun y0 => []
def f57_A (x1 x2 : LI) (x3 : Int) (x4 : LI) : List G := [(GL x1), (GL x2), (GI x3), (GL x4)]
def f57_K (x1 x2 : LI) (x3 : Int) (x4 : LI) : List (Nat × Blk) := []
def f57_C (x1 x2 : LI) (x3 : Int) (x4 : LI) (r : Int) : Prop := CallOK cx 57 (f57_A x1 x2 x3 x4) (f57_K x1 x2 x3 x4) [] (f57_v r) (f57_k x1 x2 x3 x4 r)

end
end Go.Gh.Pack
