/- Pack11D0: printed by wip/tool/gx.py -/
import Derived.Test.YtkjlgbnbpeijbaaPackA
import Derived.Test.YtkjlgbnbpeijbaaGiC
import Derived.Test.YtkjlgbnbpeijbaaPack11N0
namespace Go.Gh.Pack
set_option linter.unusedVariables false
set_option linter.unusedSimpArgs false
open Go.Proofs
abbrev oL (l : List Nat) : En := .co (.live l)
abbrev oK (l : List Nat) : En := .co (.keep l)
abbrev oV (n : Int) : En := .v (.ipt (.int .i64) n)

def f52_M : List Nat := []
noncomputable def f52_v : (List Int) → G := fun y0 => (GL y0)
noncomputable def f52_k0 : (List Int) → List (Nat × Blk) := fun y0 => []
noncomputable def f52_k (x1 : List Int) : (List Int) → List (Nat × Blk) := fun y0 => []
noncomputable def f52_A (x1 : List Int) : List G := [(GL x1)]
noncomputable def f52_K (x1 : List Int) : List (Nat × Blk) := []
def f52_C (x1 : List Int) (r : (List Int)) : Prop := CallOK cx 52 (f52_A x1) (f52_K x1) [] (f52_v r) (f52_k x1 r)

def f67_M : List Nat := []
noncomputable def f67_v : Bool → G := fun y0 => (GB y0)
noncomputable def f67_k0 : Bool → List (Nat × Blk) := fun y0 => []
noncomputable def f67_k (x1 x2 x3 : Int) : Bool → List (Nat × Blk) := fun y0 => []
noncomputable def f67_A (x1 x2 x3 : Int) : List G := [(GI x1), (GI x2), (GI x3)]
noncomputable def f67_K (x1 x2 x3 : Int) : List (Nat × Blk) := []
def f67_C (x1 x2 x3 : Int) (r : Bool) : Prop := CallOK cx 67 (f67_A x1 x2 x3) (f67_K x1 x2 x3) [] (f67_v r) (f67_k x1 x2 x3 r)

def f26_M : List Nat := []
noncomputable def f26_p4_H (x1 : List Int) (x2 x3 : Int) : GS := ⟨[(3, (GI x2)), (14, (GL x1)), (15, (.r (.at (.int .i64 ((List.length x1 : Nat) : Int))))), (16, (GI x3))], []⟩
noncomputable def f26_p4_x : f26_p4_R → GExit := fun
  | .c0 y0 => .ret
  | .c1 => (.exit 1)
noncomputable def f26_p4_s (x1 : List Int) : f26_p4_R → GS := fun
  | .c0 y0 => ⟨[(2, (GI y0))], []⟩
  | .c1 => ⟨[], []⟩
def f26_p4_P (x1 : List Int) (x2 x3 : Int) (r : f26_p4_R) : Prop := Lp cx f26_M 30 (part Try.f26 4) (f26_p4_H x1 x2 x3) (f26_p4_x r) (f26_p4_s x1 r)
noncomputable def f26_v : Int → G := fun y0 => (GI y0)
noncomputable def f26_k0 : Int → List (Nat × Blk) := fun y0 => []
noncomputable def f26_k (x1 : List Int) : Int → List (Nat × Blk) := fun y0 => []
noncomputable def f26_A (x1 : List Int) : List G := [(GL x1)]
noncomputable def f26_K (x1 : List Int) : List (Nat × Blk) := []
def f26_C (x1 : List Int) (r : Int) : Prop := CallOK cx 26 (f26_A x1) (f26_K x1) [] (f26_v r) (f26_k x1 r)

def f90_M : List Nat := []
noncomputable def f90_p1_H (x3 x4 : Int) : GS := ⟨[(0, (GI x3)), (1, (GI x4))], []⟩
noncomputable def f90_p1_x : Int → GExit := fun y0 => (.exit 0)
noncomputable def f90_p1_s : Int → GS := fun y0 => ⟨[(0, (GI y0))], []⟩
def f90_p1_P (x3 x4 : Int) (r : Int) : Prop := Lp cx f90_M 12 (part Try.f90 1) (f90_p1_H x3 x4) (f90_p1_x r) (f90_p1_s r)
noncomputable def f90_v : Int → G := fun y0 => (GI y0)
noncomputable def f90_k0 : Int → List (Nat × Blk) := fun y0 => []
noncomputable def f90_k (x1 x2 : Int) : Int → List (Nat × Blk) := fun y0 => []
noncomputable def f90_A (x1 x2 : Int) : List G := [(GI x1), (GI x2)]
noncomputable def f90_K (x1 x2 : Int) : List (Nat × Blk) := []
def f90_C (x1 x2 : Int) (r : Int) : Prop := CallOK cx 90 (f90_A x1 x2) (f90_K x1 x2) [] (f90_v r) (f90_k x1 x2 r)

def f68_M : List Nat := [1]
noncomputable def f68_p1_H (x1 : List Int) (x2 x5 : Int) (x4 : List Int) : GS := ⟨[(0, (GL x1)), (1, (GI x2)), (5, (.r (.at (.sl 1 0 (Int.toNat x2))))), (18, (.r (.at (.int .i64 (((Int.toNat x2) : Nat) : Int))))), (19, (GI x5))], [(1, (.gr (.int .i64) 3 x4 true))]⟩
noncomputable def f68_p1_x : (List Int) → GExit := fun y0 => (.exit 0)
noncomputable def f68_p1_s (x1 : List Int) (x2 : Int) : (List Int) → GS := fun y0 => ⟨[(0, (GL x1)), (1, (GI x2)), (5, (.r (.at (.sl 1 0 (Int.toNat x2)))))], [(1, (.gr (.int .i64) 3 y0 true))]⟩
def f68_p1_P (x1 : List Int) (x2 x5 : Int) (x4 : List Int) (r : (List Int)) : Prop := Lp cx f68_M 110 (part Try.f68 1) (f68_p1_H x1 x2 x5 x4) (f68_p1_x r) (f68_p1_s x1 x2 r)
noncomputable def f68_p16_3_H (x2 x56 : Int) (x57 x81 x82 : Int) (x1 : List Int) (x55 x80 x83 : Int) (x79 : List Int) : GS := ⟨[(1, (GI x2)), (5, (.r (.at (.sl 1 0 (Int.toNat x2))))), (8, (GI x56)), (9, (GI x57)), (11, (GI x81)), (12, (GI x82)), (28, (GL x1)), (29, (.r (.at (.int .i64 ((List.length x1 : Nat) : Int))))), (30, (GI x55)), (37, (GI x57)), (38, (GI x80)), (64, (.r (.at (.bool (decide (x83 < x81))))))], [(1, (.gr (.int .i64) 3 x79 true))]⟩
noncomputable def f68_p16_3_x : Int → GExit := fun y0 => .normal
noncomputable def f68_p16_3_s (x2 x56 : Int) (x57 x81 x82 : Int) (x1 : List Int) (x55 x80 x83 : Int) (x79 : List Int) : Int → GS := fun y0 => ⟨[(1, (GI x2)), (5, (.r (.at (.sl 1 0 (Int.toNat x2))))), (8, (GI x56)), (9, (GI x57)), (11, (GI y0)), (12, (GI x82)), (28, (GL x1)), (29, (.r (.at (.int .i64 ((List.length x1 : Nat) : Int))))), (30, (GI x55)), (37, (GI x57)), (38, (GI x80))], [(1, (.gr (.int .i64) 3 x79 true))]⟩
def f68_p16_3_P (x2 x56 : Int) (x57 x81 x82 : Int) (x1 : List Int) (x55 x80 x83 : Int) (x79 : List Int) (r : Int) : Prop := Ex cx f68_M 110 (part Try.f68 16) (f68_p16_3_H x2 x56 x57 x81 x82 x1 x55 x80 x83 x79) (f68_p16_3_x r) (f68_p16_3_s x2 x56 x57 x81 x82 x1 x55 x80 x83 x79 r)
noncomputable def f68_p13_3_H (x2 x56 x57 : Int) (x1 : List Int) (x55 x80 : Int) (x79 : List Int) (x81 x82 : Int) : GS := ⟨[(1, (GI x2)), (5, (.r (.at (.sl 1 0 (Int.toNat x2))))), (8, (GI x56)), (9, (GI x57)), (11, (GI x81)), (12, (GI x82)), (28, (GL x1)), (29, (.r (.at (.int .i64 ((List.length x1 : Nat) : Int))))), (30, (GI x55)), (37, (GI x57)), (38, (GI x80))], [(1, (.gr (.int .i64) 3 x79 true))]⟩
noncomputable def f68_p13_3_x : Int → GExit := fun y0 => (.exit 6)
noncomputable def f68_p13_3_s (x2 x56 x57 : Int) (x1 : List Int) (x55 x80 : Int) (x79 : List Int) : Int → GS := fun y0 => ⟨[(1, (GI x2)), (5, (.r (.at (.sl 1 0 (Int.toNat x2))))), (8, (GI x56)), (9, (GI x57)), (11, (GI y0)), (28, (GL x1)), (29, (.r (.at (.int .i64 ((List.length x1 : Nat) : Int))))), (30, (GI x55)), (37, (GI x57)), (38, (GI x80))], [(1, (.gr (.int .i64) 3 x79 true))]⟩
def f68_p13_3_P (x2 x56 x57 : Int) (x1 : List Int) (x55 x80 : Int) (x79 : List Int) (x81 x82 : Int) (r : Int) : Prop := Lp cx f68_M 110 (part Try.f68 13) (f68_p13_3_H x2 x56 x57 x1 x55 x80 x79 x81 x82) (f68_p13_3_x r) (f68_p13_3_s x2 x56 x57 x1 x55 x80 x79 r)
noncomputable def f68_p21_7_H (x2 x56 : Int) (x57 x94 x95 : Int) (x1 : List Int) (x55 x80 x96 : Int) (x93 : List Int) : GS := ⟨[(1, (GI x2)), (5, (.r (.at (.sl 1 0 (Int.toNat x2))))), (8, (GI x56)), (9, (GI x57)), (11, (.r (.at (.int .i64 (w64 (x94 + x56)))))), (13, (GI x95)), (14, (.r (.at (.int .i64 (Int.tmod (w64 (x94 + x56)) x2))))), (28, (GL x1)), (29, (.r (.at (.int .i64 ((List.length x1 : Nat) : Int))))), (30, (GI x55)), (37, (GI x57)), (38, (GI x80)), (98, (.r (.at (.bool (decide (x96 < (w64 (x94 + x56))))))))], [(1, (.gr (.int .i64) 3 x93 true))]⟩
noncomputable def f68_p21_7_x : (Int × (List Int)) → GExit := fun (y0, y1) => .normal
noncomputable def f68_p21_7_s (x2 x56 : Int) (x57 x94 x95 : Int) (x1 : List Int) (x55 x80 x96 : Int) (x93 : List Int) : (Int × (List Int)) → GS := fun (y0, y1) => ⟨[(1, (GI x2)), (5, (.r (.at (.sl 1 0 (Int.toNat x2))))), (8, (GI x56)), (9, (GI x57)), (11, (GI y0)), (13, (GI x95)), (28, (GL x1)), (29, (.r (.at (.int .i64 ((List.length x1 : Nat) : Int))))), (30, (GI x55)), (37, (GI x57)), (38, (GI x80))], [(1, (.gr (.int .i64) 3 y1 true))]⟩
def f68_p21_7_P (x2 x56 : Int) (x57 x94 x95 : Int) (x1 : List Int) (x55 x80 x96 : Int) (x93 : List Int) (r : Int × (List Int)) : Prop := Ex cx f68_M 110 (part Try.f68 21) (f68_p21_7_H x2 x56 x57 x94 x95 x1 x55 x80 x96 x93) (f68_p21_7_x r) (f68_p21_7_s x2 x56 x57 x94 x95 x1 x55 x80 x96 x93 r)
noncomputable def f68_p18_3_H (x2 x56 x57 : Int) (x1 : List Int) (x55 x80 : Int) (x94 x95 : Int) (x93 : List Int) : GS := ⟨[(1, (GI x2)), (5, (.r (.at (.sl 1 0 (Int.toNat x2))))), (8, (GI x56)), (9, (GI x57)), (11, (GI x94)), (13, (GI x95)), (28, (GL x1)), (29, (.r (.at (.int .i64 ((List.length x1 : Nat) : Int))))), (30, (GI x55)), (37, (GI x57)), (38, (GI x80))], [(1, (.gr (.int .i64) 3 x93 true))]⟩
noncomputable def f68_p18_3_x : (List Int) → GExit := fun y0 => (.exit 8)
noncomputable def f68_p18_3_s (x2 x56 x57 : Int) (x1 : List Int) (x55 x80 : Int) : (List Int) → GS := fun y0 => ⟨[(1, (GI x2)), (5, (.r (.at (.sl 1 0 (Int.toNat x2))))), (8, (GI x56)), (9, (GI x57)), (28, (GL x1)), (29, (.r (.at (.int .i64 ((List.length x1 : Nat) : Int))))), (30, (GI x55)), (37, (GI x57)), (38, (GI x80))], [(1, (.gr (.int .i64) 3 y0 true))]⟩
def f68_p18_3_P (x2 x56 x57 : Int) (x1 : List Int) (x55 x80 : Int) (x94 x95 : Int) (x93 : List Int) (r : (List Int)) : Prop := Lp cx f68_M 110 (part Try.f68 18) (f68_p18_3_H x2 x56 x57 x1 x55 x80 x94 x95 x93) (f68_p18_3_x r) (f68_p18_3_s x2 x56 x57 x1 x55 x80 r)
noncomputable def f68_p9_1_H (x2 x56 x57 : Int) (x1 : List Int) (x55 x80 : Int) (x79 : List Int) : GS := ⟨[(1, (GI x2)), (5, (.r (.at (.sl 1 0 (Int.toNat x2))))), (8, (GI x56)), (9, (GI x57)), (28, (GL x1)), (29, (.r (.at (.int .i64 ((List.length x1 : Nat) : Int))))), (30, (GI x55)), (37, (GI x57)), (38, (GI x80))], [(1, (.gr (.int .i64) 3 x79 true))]⟩
noncomputable def f68_p9_1_x : (List Int) → GExit := fun y0 => (.exit 4)
noncomputable def f68_p9_1_s (x2 x56 x57 : Int) (x1 : List Int) (x55 : Int) : (List Int) → GS := fun y0 => ⟨[(1, (GI x2)), (5, (.r (.at (.sl 1 0 (Int.toNat x2))))), (28, (GL x1)), (29, (.r (.at (.int .i64 ((List.length x1 : Nat) : Int))))), (30, (GI x55))], [(1, (.gr (.int .i64) 3 y0 true))]⟩
def f68_p9_1_P (x2 x56 x57 : Int) (x1 : List Int) (x55 x80 : Int) (x79 : List Int) (r : (List Int)) : Prop := Lp cx f68_M 110 (part Try.f68 9) (f68_p9_1_H x2 x56 x57 x1 x55 x80 x79) (f68_p9_1_x r) (f68_p9_1_s x2 x56 x57 x1 x55 r)
noncomputable def f68_p5_H (x2 : Int) (x1 : List Int) (x55 : Int) (x54 : List Int) : GS := ⟨[(1, (GI x2)), (5, (.r (.at (.sl 1 0 (Int.toNat x2))))), (28, (GL x1)), (29, (.r (.at (.int .i64 ((List.length x1 : Nat) : Int))))), (30, (GI x55))], [(1, (.gr (.int .i64) 3 x54 true))]⟩
noncomputable def f68_p5_x : (List Int) → GExit := fun y0 => (.exit 2)
noncomputable def f68_p5_s (x2 : Int) (x1 : List Int) : (List Int) → GS := fun y0 => ⟨[(5, (.r (.at (.sl 1 0 (Int.toNat x2)))))], [(1, (.gr (.int .i64) 3 y0 true))]⟩
def f68_p5_P (x2 : Int) (x1 : List Int) (x55 : Int) (x54 : List Int) (r : (List Int)) : Prop := Lp cx f68_M 110 (part Try.f68 5) (f68_p5_H x2 x1 x55 x54) (f68_p5_x r) (f68_p5_s x2 x1 r)
noncomputable def f68_v : (List Int) → G := fun y0 => (GL y0)
noncomputable def f68_k0 : (List Int) → List (Nat × Blk) := fun y0 => []
noncomputable def f68_k (x1 : List Int) (x2 : Int) : (List Int) → List (Nat × Blk) := fun y0 => []
noncomputable def f68_A (x1 : List Int) (x2 : Int) : List G := [(GL x1), (GI x2)]
noncomputable def f68_K (x1 : List Int) (x2 : Int) : List (Nat × Blk) := []
def f68_C (x1 : List Int) (x2 : Int) (r : (List Int)) : Prop := CallOK cx 68 (f68_A x1 x2) (f68_K x1 x2) [] (f68_v r) (f68_k x1 x2 r)

def f105_M : List Nat := []
noncomputable def f105_p1_H (x1 : List Int) (x2 x3 : Int) : GS := ⟨[(0, (GL x1)), (1, (GI x2)), (7, (.r (.at (.int .i64 ((List.length x1 : Nat) : Int))))), (8, (GI x3))], []⟩
noncomputable def f105_p1_x : f105_p1_R → GExit := fun
  | .c0 y0 => .ret
  | .c1 => (.exit 0)
noncomputable def f105_p1_s (x1 : List Int) (x2 : Int) : f105_p1_R → GS := fun
  | .c0 y0 => ⟨[(4, (GI y0))], []⟩
  | .c1 => ⟨[], []⟩
def f105_p1_P (x1 : List Int) (x2 x3 : Int) (r : f105_p1_R) : Prop := Lp cx f105_M 19 (part Try.f105 1) (f105_p1_H x1 x2 x3) (f105_p1_x r) (f105_p1_s x1 x2 r)
noncomputable def f105_v : Int → G := fun y0 => (GI y0)
noncomputable def f105_k0 : Int → List (Nat × Blk) := fun y0 => []
noncomputable def f105_k (x1 : List Int) (x2 : Int) : Int → List (Nat × Blk) := fun y0 => []
noncomputable def f105_A (x1 : List Int) (x2 : Int) : List G := [(GL x1), (GI x2)]
noncomputable def f105_K (x1 : List Int) (x2 : Int) : List (Nat × Blk) := []
def f105_C (x1 : List Int) (x2 : Int) (r : Int) : Prop := CallOK cx 105 (f105_A x1 x2) (f105_K x1 x2) [] (f105_v r) (f105_k x1 x2 r)

def f91_M : List Nat := []
noncomputable def f91_v : Bool → G := fun y0 => (GB y0)
noncomputable def f91_k0 : Bool → List (Nat × Blk) := fun y0 => []
noncomputable def f91_k (x1 : List Int) (x2 : Int) : Bool → List (Nat × Blk) := fun y0 => []
noncomputable def f91_A (x1 : List Int) (x2 : Int) : List G := [(GL x1), (GI x2)]
noncomputable def f91_K (x1 : List Int) (x2 : Int) : List (Nat × Blk) := []
def f91_C (x1 : List Int) (x2 : Int) (r : Bool) : Prop := CallOK cx 91 (f91_A x1 x2) (f91_K x1 x2) [] (f91_v r) (f91_k x1 x2 r)

def f103_M : List Nat := []
noncomputable def f103_p0_H (x1 : Int) : GS := ⟨[(0, (.r (.at (.int .u64 x1)))), (2, (.r (.at (.int .i64 0)))), (4, (.r (.at (.bool (decide (x1 ≥ 4294967296))))))], []⟩
noncomputable def f103_p0_x : (Int × Int) → GExit := fun (y0, y1) => .normal
noncomputable def f103_p0_s (x1 : Int) : (Int × Int) → GS := fun (y0, y1) => ⟨[(0, (.r (.at (.int .u64 y0)))), (2, (GI y1))], []⟩
def f103_p0_P (x1 : Int) (r : Int × Int) : Prop := Ex cx f103_M 25 (part Try.f103 0) (f103_p0_H x1) (f103_p0_x r) (f103_p0_s x1 r)
noncomputable def f103_p1_H (x2 x3 : Int) : GS := ⟨[(0, (.r (.at (.int .u64 x2)))), (2, (GI x3)), (8, (.r (.at (.bool (decide (x2 ≥ 65536))))))], []⟩
noncomputable def f103_p1_x : (Int × Int) → GExit := fun (y0, y1) => .normal
noncomputable def f103_p1_s (x2 x3 : Int) : (Int × Int) → GS := fun (y0, y1) => ⟨[(0, (.r (.at (.int .u64 y0)))), (2, (GI y1))], []⟩
def f103_p1_P (x2 x3 : Int) (r : Int × Int) : Prop := Ex cx f103_M 25 (part Try.f103 1) (f103_p1_H x2 x3) (f103_p1_x r) (f103_p1_s x2 x3 r)
noncomputable def f103_p2_H (x4 x5 : Int) : GS := ⟨[(0, (.r (.at (.int .u64 x4)))), (2, (GI x5)), (14, (.r (.at (.bool (decide (x4 ≥ 256))))))], []⟩
noncomputable def f103_p2_x : (Int × Int) → GExit := fun (y0, y1) => .normal
noncomputable def f103_p2_s (x4 x5 : Int) : (Int × Int) → GS := fun (y0, y1) => ⟨[(0, (.r (.at (.int .u64 y0)))), (2, (GI y1))], []⟩
def f103_p2_P (x4 x5 : Int) (r : Int × Int) : Prop := Ex cx f103_M 25 (part Try.f103 2) (f103_p2_H x4 x5) (f103_p2_x r) (f103_p2_s x4 x5 r)
noncomputable def f103_v : Int → G := fun y0 => (GI y0)
noncomputable def f103_k0 : Int → List (Nat × Blk) := fun y0 => []
noncomputable def f103_k (x1 : Int) : Int → List (Nat × Blk) := fun y0 => []
noncomputable def f103_A (x1 : Int) : List G := [(.r (.at (.int .u64 x1)))]
noncomputable def f103_K (x1 : Int) : List (Nat × Blk) := []
def f103_C (x1 : Int) (r : Int) : Prop := CallOK cx 103 (f103_A x1) (f103_K x1) [] (f103_v r) (f103_k x1 r)

def f84_M : List Nat := []
noncomputable def f84_v : Int → G := fun y0 => (GI y0)
noncomputable def f84_k0 : Int → List (Nat × Blk) := fun y0 => []
noncomputable def f84_k (x1 : Int) : Int → List (Nat × Blk) := fun y0 => []
noncomputable def f84_A (x1 : Int) : List G := [(.r (.at (.int .u64 x1)))]
noncomputable def f84_K (x1 : Int) : List (Nat × Blk) := []
def f84_C (x1 : Int) (r : Int) : Prop := CallOK cx 84 (f84_A x1) (f84_K x1) [] (f84_v r) (f84_k x1 r)

def f111_M : List Nat := []
noncomputable def f111_v : Bool → G := fun y0 => (GB y0)
noncomputable def f111_k0 : Bool → List (Nat × Blk) := fun y0 => []
noncomputable def f111_k (x1 : Int) : Bool → List (Nat × Blk) := fun y0 => []
noncomputable def f111_A (x1 : Int) : List G := [(GI x1)]
noncomputable def f111_K (x1 : Int) : List (Nat × Blk) := []
def f111_C (x1 : Int) (r : Bool) : Prop := CallOK cx 111 (f111_A x1) (f111_K x1) [] (f111_v r) (f111_k x1 r)

def f99_M : List Nat := []
noncomputable def f99_v : Bool → G := fun y0 => (GB y0)
noncomputable def f99_k0 : Bool → List (Nat × Blk) := fun y0 => []
noncomputable def f99_k (x1 x2 : Int) : Bool → List (Nat × Blk) := fun y0 => []
noncomputable def f99_A (x1 x2 : Int) : List G := [(GI x1), (GI x2)]
noncomputable def f99_K (x1 x2 : Int) : List (Nat × Blk) := []
def f99_C (x1 x2 : Int) (r : Bool) : Prop := CallOK cx 99 (f99_A x1 x2) (f99_K x1 x2) [] (f99_v r) (f99_k x1 x2 r)

def f93_M : List Nat := []
noncomputable def f93_p5_1_H (x1 x2 : Nat) (x3 x4 : Int) (x18 x24 : Int) (x23 : List Int) : GS := ⟨[(0, (.r (.at (.sl 2 x1 x2)))), (1, (GI x3)), (2, (GI x4)), (6, (GI x18)), (7, (GI x24))], [(2, (.gr (.int .i64) 3 x23 true))]⟩
noncomputable def f93_p5_1_x : (List Int) → GExit := fun y0 => (.exit 2)
noncomputable def f93_p5_1_s (x1 x2 : Nat) (x3 x4 x18 : Int) : (List Int) → GS := fun y0 => ⟨[(0, (.r (.at (.sl 2 x1 x2)))), (1, (GI x3)), (2, (GI x4)), (6, (GI x18))], [(2, (.gr (.int .i64) 3 y0 true))]⟩
def f93_p5_1_P (x1 x2 : Nat) (x3 x4 : Int) (x18 x24 : Int) (x23 : List Int) (r : (List Int)) : Prop := Lp cx f93_M 49 (part Try.f93 5) (f93_p5_1_H x1 x2 x3 x4 x18 x24 x23) (f93_p5_1_x r) (f93_p5_1_s x1 x2 x3 x4 x18 r)
noncomputable def f93_p1_H (x1 x2 : Nat) (x3 x4 x18 : Int) (x17 : List Int) : GS := ⟨[(0, (.r (.at (.sl 2 x1 x2)))), (1, (GI x3)), (2, (GI x4)), (6, (GI x18))], [(2, (.gr (.int .i64) 3 x17 true))]⟩
noncomputable def f93_p1_x : (List Int) → GExit := fun y0 => (.exit 0)
noncomputable def f93_p1_s (x1 x2 : Nat) (x3 x4 : Int) : (List Int) → GS := fun y0 => ⟨[], [(2, (.gr (.int .i64) 3 y0 true))]⟩
def f93_p1_P (x1 x2 : Nat) (x3 x4 x18 : Int) (x17 : List Int) (r : (List Int)) : Prop := Lp cx f93_M 49 (part Try.f93 1) (f93_p1_H x1 x2 x3 x4 x18 x17) (f93_p1_x r) (f93_p1_s x1 x2 x3 x4 r)
noncomputable def f93_v : (List Int) → G := fun y0 => (.r (.at .unit0))
noncomputable def f93_k0 : (List Int) → List (Nat × Blk) := fun y0 => [(2, (.gr (.int .i64) 3 y0 true))]
noncomputable def f93_k (x1 x2 : Nat) (x3 x4 : Int) (x5 : List Int) : (List Int) → List (Nat × Blk) := fun y0 => [(2, (.gr (.int .i64) 3 y0 true))]
noncomputable def f93_A (x1 x2 : Nat) (x3 x4 : Int) (x5 : List Int) : List G := [(.r (.at (.sl 2 x1 x2))), (GI x3), (GI x4)]
noncomputable def f93_K (x1 x2 : Nat) (x3 x4 : Int) (x5 : List Int) : List (Nat × Blk) := [(2, (.gr (.int .i64) 3 x5 true))]
def f93_C (x1 x2 : Nat) (x3 x4 : Int) (x5 : List Int) (r : (List Int)) : Prop := CallOK cx 93 (f93_A x1 x2 x3 x4 x5) (f93_K x1 x2 x3 x4 x5) [] (f93_v r) (f93_k x1 x2 x3 x4 x5 r)

def f106_M : List Nat := []
noncomputable def f106_p4_1_H (x1 x2 : Nat) (x4 x5 x16 : Int) (x19 : Bool) (x15 : List Int) : GS := ⟨[(0, (.r (.at (.sl 2 x1 x2)))), (2, (GI x4)), (3, (GI x5)), (8, (GI x16)), (9, (.r (.at (.int .i64 (w64 ((w64 (2 * x16)) + 1)))))), (36, (GB x19))], [(2, (.gr (.int .i64) 3 x15 true))]⟩
noncomputable def f106_p4_1_x : Int → GExit := fun y0 => .normal
noncomputable def f106_p4_1_s (x1 x2 : Nat) (x4 x5 x16 : Int) (x19 : Bool) (x15 : List Int) : Int → GS := fun y0 => ⟨[(0, (.r (.at (.sl 2 x1 x2)))), (2, (GI x4)), (3, (GI x5)), (8, (GI x16)), (9, (GI y0))], [(2, (.gr (.int .i64) 3 x15 true))]⟩
def f106_p4_1_P (x1 x2 : Nat) (x4 x5 x16 : Int) (x19 : Bool) (x15 : List Int) (r : Int) : Prop := Ex cx f106_M 76 (part Try.f106 4) (f106_p4_1_H x1 x2 x4 x5 x16 x19 x15) (f106_p4_1_x r) (f106_p4_1_s x1 x2 x4 x5 x16 x19 x15 r)
noncomputable def f106_p1_H (x1 x2 : Nat) (x4 x5 x16 : Int) (x15 : List Int) : GS := ⟨[(0, (.r (.at (.sl 2 x1 x2)))), (2, (GI x4)), (3, (GI x5)), (8, (GI x16))], [(2, (.gr (.int .i64) 3 x15 true))]⟩
noncomputable def f106_p1_x : f106_p1_R → GExit := fun
  | .c0 y0 => (.exit 0)
  | .c1 y0 => .ret
noncomputable def f106_p1_s (x1 x2 : Nat) (x4 x5 : Int) : f106_p1_R → GS := fun
  | .c0 y0 => ⟨[], [(2, (.gr (.int .i64) 3 y0 true))]⟩
  | .c1 y0 => ⟨[], [(2, (.gr (.int .i64) 3 y0 true))]⟩
def f106_p1_P (x1 x2 : Nat) (x4 x5 x16 : Int) (x15 : List Int) (r : f106_p1_R) : Prop := Lp cx f106_M 76 (part Try.f106 1) (f106_p1_H x1 x2 x4 x5 x16 x15) (f106_p1_x r) (f106_p1_s x1 x2 x4 x5 r)
noncomputable def f106_v : (List Int) → G := fun y0 => (.r (.at .unit0))
noncomputable def f106_k0 : (List Int) → List (Nat × Blk) := fun y0 => [(2, (.gr (.int .i64) 3 y0 true))]
noncomputable def f106_k (x1 x2 : Nat) (x3 x4 x5 : Int) (x6 : List Int) : (List Int) → List (Nat × Blk) := fun y0 => [(2, (.gr (.int .i64) 3 y0 true))]
noncomputable def f106_A (x1 x2 : Nat) (x3 x4 x5 : Int) (x6 : List Int) : List G := [(.r (.at (.sl 2 x1 x2))), (GI x3), (GI x4), (GI x5)]
noncomputable def f106_K (x1 x2 : Nat) (x3 x4 x5 : Int) (x6 : List Int) : List (Nat × Blk) := [(2, (.gr (.int .i64) 3 x6 true))]
def f106_C (x1 x2 : Nat) (x3 x4 x5 : Int) (x6 : List Int) (r : (List Int)) : Prop := CallOK cx 106 (f106_A x1 x2 x3 x4 x5 x6) (f106_K x1 x2 x3 x4 x5 x6) [] (f106_v r) (f106_k x1 x2 x3 x4 x5 x6 r)

def f94_M : List Nat := []
noncomputable def f94_p1_H (x1 x2 : Nat) (x3 x4 x9 : Int) (x8 : List Int) : GS := ⟨[(0, (.r (.at (.sl 2 x1 x2)))), (6, (GI x3)), (7, (.r (.at (.int .i64 0)))), (8, (.r (.at (.int .i64 (w64 (x4 - x3)))))), (9, (GI x9))], [(2, (.gr (.int .i64) 3 x8 true))]⟩
noncomputable def f94_p1_x : (List Int) → GExit := fun y0 => (.exit 0)
noncomputable def f94_p1_s (x1 x2 : Nat) (x3 x4 : Int) : (List Int) → GS := fun y0 => ⟨[(0, (.r (.at (.sl 2 x1 x2)))), (6, (GI x3)), (7, (.r (.at (.int .i64 0)))), (8, (.r (.at (.int .i64 (w64 (x4 - x3))))))], [(2, (.gr (.int .i64) 3 y0 true))]⟩
def f94_p1_P (x1 x2 : Nat) (x3 x4 x9 : Int) (x8 : List Int) (r : (List Int)) : Prop := Lp cx f94_M 56 (part Try.f94 1) (f94_p1_H x1 x2 x3 x4 x9 x8) (f94_p1_x r) (f94_p1_s x1 x2 x3 x4 r)
noncomputable def f94_p5_H (x1 x2 : Nat) (x3 x17 : Int) (x16 : List Int) : GS := ⟨[(0, (.r (.at (.sl 2 x1 x2)))), (6, (GI x3)), (7, (.r (.at (.int .i64 0)))), (10, (GI x17))], [(2, (.gr (.int .i64) 3 x16 true))]⟩
noncomputable def f94_p5_x : (List Int) → GExit := fun y0 => (.exit 2)
noncomputable def f94_p5_s (x1 x2 : Nat) (x3 : Int) : (List Int) → GS := fun y0 => ⟨[], [(2, (.gr (.int .i64) 3 y0 true))]⟩
def f94_p5_P (x1 x2 : Nat) (x3 x17 : Int) (x16 : List Int) (r : (List Int)) : Prop := Lp cx f94_M 56 (part Try.f94 5) (f94_p5_H x1 x2 x3 x17 x16) (f94_p5_x r) (f94_p5_s x1 x2 x3 r)
noncomputable def f94_v : (List Int) → G := fun y0 => (.r (.at .unit0))
noncomputable def f94_k0 : (List Int) → List (Nat × Blk) := fun y0 => [(2, (.gr (.int .i64) 3 y0 true))]
noncomputable def f94_k (x1 x2 : Nat) (x3 x4 : Int) (x5 : List Int) : (List Int) → List (Nat × Blk) := fun y0 => [(2, (.gr (.int .i64) 3 y0 true))]
noncomputable def f94_A (x1 x2 : Nat) (x3 x4 : Int) (x5 : List Int) : List G := [(.r (.at (.sl 2 x1 x2))), (GI x3), (GI x4)]
noncomputable def f94_K (x1 x2 : Nat) (x3 x4 : Int) (x5 : List Int) : List (Nat × Blk) := [(2, (.gr (.int .i64) 3 x5 true))]
def f94_C (x1 x2 : Nat) (x3 x4 : Int) (x5 : List Int) (r : (List Int)) : Prop := CallOK cx 94 (f94_A x1 x2 x3 x4 x5) (f94_K x1 x2 x3 x4 x5) [] (f94_v r) (f94_k x1 x2 x3 x4 x5 r)

def f107_M : List Nat := []
noncomputable def f107_v : Int → G := fun y0 => (.r (.at (.int .u64 y0)))
noncomputable def f107_k0 : Int → List (Nat × Blk) := fun y0 => []
noncomputable def f107_k (x1 : Int) : Int → List (Nat × Blk) := fun y0 => []
noncomputable def f107_A (x1 : Int) : List G := [(GI x1)]
noncomputable def f107_K (x1 : Int) : List (Nat × Blk) := []
def f107_C (x1 : Int) (r : Int) : Prop := CallOK cx 107 (f107_A x1) (f107_K x1) [] (f107_v r) (f107_k x1 r)

def f108_M : List Nat := []
noncomputable def f108_v : (Int × Int) → G := fun (y0, y1) => (.r (.at (.int .u64 y0)))
noncomputable def f108_k0 : (Int × Int) → List (Nat × Blk) := fun (y0, y1) => [(3, (.var [.cell (.int .u64 y1)]))]
noncomputable def f108_k (x1 : Int) : (Int × Int) → List (Nat × Blk) := fun (y0, y1) => [(3, (.var [.cell (.int .u64 y1)]))]
noncomputable def f108_A (x1 : Int) : List G := [(.r (.at (.ptr 3 0 0)))]
noncomputable def f108_K (x1 : Int) : List (Nat × Blk) := [(3, (.var [.cell (.int .u64 x1)]))]
def f108_C (x1 : Int) (r : Int × Int) : Prop := CallOK cx 108 (f108_A x1) (f108_K x1) [] (f108_v r) (f108_k x1 r)

def f95_M : List Nat := [3]
noncomputable def f95_p5_1_H (x1 x2 : Nat) (x3 x4 : Int) (x6 x14 x16 : Int) (x13 : List Int) (x17 : Int) : GS := ⟨[(0, (.r (.at (.sl 2 x1 x2)))), (1, (GI x3)), (6, (.r (.at (.int .i64 (w64 (x4 - x3)))))), (7, (.r (.at (.ptr 3 0 0)))), (8, (.r (.at (.int .u64 x6)))), (9, (GI x14)), (10, (.r (.at (.int .i64 (w64 ((iAnd .u64 x16 (IntKind.wrap .u64 (x6 - 1))))))))), (43, (.r (.at (.bool (decide ((w64 ((iAnd .u64 x16 (IntKind.wrap .u64 (x6 - 1))))) ≥ (w64 (x4 - x3))))))))], [(2, (.gr (.int .i64) 3 x13 true)), (3, (.var [.cell (.int .u64 x17)]))]⟩
noncomputable def f95_p5_1_x : Int → GExit := fun y0 => .normal
noncomputable def f95_p5_1_s (x1 x2 : Nat) (x3 x4 : Int) (x6 x14 x16 : Int) (x13 : List Int) (x17 : Int) : Int → GS := fun y0 => ⟨[(0, (.r (.at (.sl 2 x1 x2)))), (1, (GI x3)), (6, (.r (.at (.int .i64 (w64 (x4 - x3)))))), (7, (.r (.at (.ptr 3 0 0)))), (8, (.r (.at (.int .u64 x6)))), (9, (GI x14)), (10, (GI y0))], [(2, (.gr (.int .i64) 3 x13 true)), (3, (.var [.cell (.int .u64 x17)]))]⟩
def f95_p5_1_P (x1 x2 : Nat) (x3 x4 : Int) (x6 x14 x16 : Int) (x13 : List Int) (x17 : Int) (r : Int) : Prop := Ex cx f95_M 65 (part Try.f95 5) (f95_p5_1_H x1 x2 x3 x4 x6 x14 x16 x13 x17) (f95_p5_1_x r) (f95_p5_1_s x1 x2 x3 x4 x6 x14 x16 x13 x17 r)
noncomputable def f95_p2_H (x1 x2 : Nat) (x3 x4 : Int) (x6 x14 : Int) (x13 : List Int) (x15 : Int) : GS := ⟨[(0, (.r (.at (.sl 2 x1 x2)))), (1, (GI x3)), (6, (.r (.at (.int .i64 (w64 (x4 - x3)))))), (7, (.r (.at (.ptr 3 0 0)))), (8, (.r (.at (.int .u64 x6)))), (9, (GI x14))], [(2, (.gr (.int .i64) 3 x13 true)), (3, (.var [.cell (.int .u64 x15)]))]⟩
noncomputable def f95_p2_x : (List Int) → GExit := fun y0 => (.exit 0)
noncomputable def f95_p2_s (x1 x2 : Nat) (x3 x4 x6 : Int) : (List Int) → GS := fun y0 => ⟨[], [(2, (.gr (.int .i64) 3 y0 true))]⟩
def f95_p2_P (x1 x2 : Nat) (x3 x4 : Int) (x6 x14 : Int) (x13 : List Int) (x15 : Int) (r : (List Int)) : Prop := Lp cx f95_M 65 (part Try.f95 2) (f95_p2_H x1 x2 x3 x4 x6 x14 x13 x15) (f95_p2_x r) (f95_p2_s x1 x2 x3 x4 x6 r)
noncomputable def f95_p0_H (x1 x2 : Nat) (x3 x4 : Int) (x5 : List Int) : GS := ⟨[(0, (.r (.at (.sl 2 x1 x2)))), (1, (GI x3)), (6, (.r (.at (.int .i64 (w64 (x4 - x3)))))), (15, (.r (.at (.bool (decide ((w64 (x4 - x3)) ≥ 8))))))], [(2, (.gr (.int .i64) 3 x5 true))]⟩
noncomputable def f95_p0_x : (List Int) → GExit := fun y0 => .normal
noncomputable def f95_p0_s (x1 x2 : Nat) (x3 x4 : Int) (x5 : List Int) : (List Int) → GS := fun y0 => ⟨[], [(2, (.gr (.int .i64) 3 y0 true))]⟩
def f95_p0_P (x1 x2 : Nat) (x3 x4 : Int) (x5 : List Int) (r : (List Int)) : Prop := Ex cx f95_M 65 (part Try.f95 0) (f95_p0_H x1 x2 x3 x4 x5) (f95_p0_x r) (f95_p0_s x1 x2 x3 x4 x5 r)
noncomputable def f95_v : (List Int) → G := fun y0 => (.r (.at .unit0))
noncomputable def f95_k0 : (List Int) → List (Nat × Blk) := fun y0 => [(2, (.gr (.int .i64) 3 y0 true))]
noncomputable def f95_k (x1 x2 : Nat) (x3 x4 : Int) (x5 : List Int) : (List Int) → List (Nat × Blk) := fun y0 => [(2, (.gr (.int .i64) 3 y0 true))]
noncomputable def f95_A (x1 x2 : Nat) (x3 x4 : Int) (x5 : List Int) : List G := [(.r (.at (.sl 2 x1 x2))), (GI x3), (GI x4)]
noncomputable def f95_K (x1 x2 : Nat) (x3 x4 : Int) (x5 : List Int) : List (Nat × Blk) := [(2, (.gr (.int .i64) 3 x5 true))]
def f95_C (x1 x2 : Nat) (x3 x4 : Int) (x5 : List Int) (r : (List Int)) : Prop := CallOK cx 95 (f95_A x1 x2 x3 x4 x5) (f95_K x1 x2 x3 x4 x5) [] (f95_v r) (f95_k x1 x2 x3 x4 x5 r)

def f112_M : List Nat := []
noncomputable def f112_v : (Int × Int × Int) → G := fun (y0, y1, y2) => (.tup [(.at (.int .i64 y0)), (.at (.int .i64 y1))])
noncomputable def f112_k0 : (Int × Int × Int) → List (Nat × Blk) := fun (y0, y1, y2) => [(4, (.var [.cell (.int .i64 y2)]))]
noncomputable def f112_k (x1 x2 : Nat) (x3 x4 : Int) (x5 : List Int) (x6 : Int) : (Int × Int × Int) → List (Nat × Blk) := fun (y0, y1, y2) => [(4, (.var [.cell (.int .i64 y2)])), (2, (.gr (.int .i64) 3 x5 true))]
noncomputable def f112_A (x1 x2 : Nat) (x3 x4 : Int) (x5 : List Int) (x6 : Int) : List G := [(.r (.at (.sl 2 x1 x2))), (GI x3), (GI x4), (.r (.at (.ptr 4 0 0)))]
noncomputable def f112_K (x1 x2 : Nat) (x3 x4 : Int) (x5 : List Int) (x6 : Int) : List (Nat × Blk) := [(2, (.gr (.int .i64) 3 x5 true)), (4, (.var [.cell (.int .i64 x6)]))]
def f112_C (x1 x2 : Nat) (x3 x4 : Int) (x5 : List Int) (x6 : Int) (r : Int × Int × Int) : Prop := CallOK cx 112 (f112_A x1 x2 x3 x4 x5 x6) (f112_K x1 x2 x3 x4 x5 x6) [] (f112_v r) (f112_k x1 x2 x3 x4 x5 x6 r)

def f110_M : List Nat := []
noncomputable def f110_v : (Int × Int) → G := fun (y0, y1) => (GI y0)
noncomputable def f110_k0 : (Int × Int) → List (Nat × Blk) := fun (y0, y1) => [(4, (.var [.cell (.int .i64 y1)]))]
noncomputable def f110_k (x1 x2 : Nat) (x3 x4 x5 : Int) (x6 : List Int) (x7 : Int) : (Int × Int) → List (Nat × Blk) := fun (y0, y1) => [(4, (.var [.cell (.int .i64 y1)])), (2, (.gr (.int .i64) 3 x6 true))]
noncomputable def f110_A (x1 x2 : Nat) (x3 x4 x5 : Int) (x6 : List Int) (x7 : Int) : List G := [(.r (.at (.sl 2 x1 x2))), (GI x3), (GI x4), (GI x5), (.r (.at (.ptr 4 0 0)))]
noncomputable def f110_K (x1 x2 : Nat) (x3 x4 x5 : Int) (x6 : List Int) (x7 : Int) : List (Nat × Blk) := [(2, (.gr (.int .i64) 3 x6 true)), (4, (.var [.cell (.int .i64 x7)]))]
def f110_C (x1 x2 : Nat) (x3 x4 x5 : Int) (x6 : List Int) (x7 : Int) (r : Int × Int) : Prop := CallOK cx 110 (f110_A x1 x2 x3 x4 x5 x6 x7) (f110_K x1 x2 x3 x4 x5 x6 x7) [] (f110_v r) (f110_k x1 x2 x3 x4 x5 x6 x7 r)

def f109_M : List Nat := []
noncomputable def f109_v : (Int × Int) → G := fun (y0, y1) => (GI y0)
noncomputable def f109_k0 : (Int × Int) → List (Nat × Blk) := fun (y0, y1) => [(4, (.var [.cell (.int .i64 y1)]))]
noncomputable def f109_k (x1 x2 : Nat) (x3 : Int) (x4 : List Int) (x5 : Int) : (Int × Int) → List (Nat × Blk) := fun (y0, y1) => [(4, (.var [.cell (.int .i64 y1)])), (2, (.gr (.int .i64) 3 x4 true))]
noncomputable def f109_A (x1 x2 : Nat) (x3 : Int) (x4 : List Int) (x5 : Int) : List G := [(.r (.at (.sl 2 x1 x2))), (GI x3), (.r (.at (.ptr 4 0 0)))]
noncomputable def f109_K (x1 x2 : Nat) (x3 : Int) (x4 : List Int) (x5 : Int) : List (Nat × Blk) := [(2, (.gr (.int .i64) 3 x4 true)), (4, (.var [.cell (.int .i64 x5)]))]
def f109_C (x1 x2 : Nat) (x3 : Int) (x4 : List Int) (x5 : Int) (r : Int × Int) : Prop := CallOK cx 109 (f109_A x1 x2 x3 x4 x5) (f109_K x1 x2 x3 x4 x5) [] (f109_v r) (f109_k x1 x2 x3 x4 x5 r)

def f96_M : List Nat := [4]
noncomputable def f96_p1_H (x1 x2 : Nat) (x3 x4 : Int) (x5 : List Int) : GS := ⟨[(0, (.r (.at (.sl 2 x1 x2)))), (9, (.r (.at (.ptr 4 0 0)))), (10, (.r (.at (.int .i64 (w64 (x3 + (w64 ((w64 (Int.tdiv (w64 (x4 - x3)) 4)) * 1)))))))), (11, (.r (.at (.int .i64 (w64 (x3 + (w64 ((w64 (Int.tdiv (w64 (x4 - x3)) 4)) * 2)))))))), (12, (.r (.at (.int .i64 (w64 (x3 + (w64 ((w64 (Int.tdiv (w64 (x4 - x3)) 4)) * 3)))))))), (34, (.r (.at (.bool (decide ((w64 (x4 - x3)) ≥ 50))))))], [(2, (.gr (.int .i64) 3 x5 true)), (4, (.var [.cell (.int .i64 0)]))]⟩
noncomputable def f96_p1_x : (Int × Int × Int × Int) → GExit := fun (y0, y1, y2, y3) => .normal
noncomputable def f96_p1_s (x1 x2 : Nat) (x3 x4 : Int) (x5 : List Int) : (Int × Int × Int × Int) → GS := fun (y0, y1, y2, y3) => ⟨[(0, (.r (.at (.sl 2 x1 x2)))), (9, (.r (.at (.ptr 4 0 0)))), (10, (GI y0)), (11, (GI y1)), (12, (GI y2))], [(2, (.gr (.int .i64) 3 x5 true)), (4, (.var [.cell (.int .i64 y3)]))]⟩
def f96_p1_P (x1 x2 : Nat) (x3 x4 : Int) (x5 : List Int) (r : Int × Int × Int × Int) : Prop := Ex cx f96_M 57 (part Try.f96 1) (f96_p1_H x1 x2 x3 x4 x5) (f96_p1_x r) (f96_p1_s x1 x2 x3 x4 x5 r)
noncomputable def f96_p0_H (x1 x2 : Nat) (x4 x3 : Int) (x5 : List Int) : GS := ⟨[(0, (.r (.at (.sl 2 x1 x2)))), (8, (.r (.at (.int .i64 (w64 (x4 - x3)))))), (9, (.r (.at (.ptr 4 0 0)))), (10, (.r (.at (.int .i64 (w64 (x3 + (w64 ((w64 (Int.tdiv (w64 (x4 - x3)) 4)) * 1)))))))), (11, (.r (.at (.int .i64 (w64 (x3 + (w64 ((w64 (Int.tdiv (w64 (x4 - x3)) 4)) * 2)))))))), (12, (.r (.at (.int .i64 (w64 (x3 + (w64 ((w64 (Int.tdiv (w64 (x4 - x3)) 4)) * 3)))))))), (32, (.r (.at (.bool (decide ((w64 (x4 - x3)) ≥ 8))))))], [(2, (.gr (.int .i64) 3 x5 true)), (4, (.var [.cell (.int .i64 0)]))]⟩
noncomputable def f96_p0_x : (Int × Int) → GExit := fun (y0, y1) => .normal
noncomputable def f96_p0_s (x1 x2 : Nat) (x4 x3 : Int) (x5 : List Int) : (Int × Int) → GS := fun (y0, y1) => ⟨[(9, (.r (.at (.ptr 4 0 0)))), (11, (GI y0))], [(2, (.gr (.int .i64) 3 x5 true)), (4, (.var [.cell (.int .i64 y1)]))]⟩
def f96_p0_P (x1 x2 : Nat) (x4 x3 : Int) (x5 : List Int) (r : Int × Int) : Prop := Ex cx f96_M 57 (part Try.f96 0) (f96_p0_H x1 x2 x4 x3 x5) (f96_p0_x r) (f96_p0_s x1 x2 x4 x3 x5 r)
noncomputable def f96_v : (Int × Int) → G := fun (y0, y1) => (.tup [(.at (.int .i64 y0)), (.at (.int .i64 y1))])
noncomputable def f96_k0 : (Int × Int) → List (Nat × Blk) := fun (y0, y1) => []
noncomputable def f96_k (x1 x2 : Nat) (x3 x4 : Int) (x5 : List Int) : (Int × Int) → List (Nat × Blk) := fun (y0, y1) => [(2, (.gr (.int .i64) 3 x5 true))]
noncomputable def f96_A (x1 x2 : Nat) (x3 x4 : Int) (x5 : List Int) : List G := [(.r (.at (.sl 2 x1 x2))), (GI x3), (GI x4)]
noncomputable def f96_K (x1 x2 : Nat) (x3 x4 : Int) (x5 : List Int) : List (Nat × Blk) := [(2, (.gr (.int .i64) 3 x5 true))]
def f96_C (x1 x2 : Nat) (x3 x4 : Int) (x5 : List Int) (r : Int × Int) : Prop := CallOK cx 96 (f96_A x1 x2 x3 x4 x5) (f96_K x1 x2 x3 x4 x5) [] (f96_v r) (f96_k x1 x2 x3 x4 x5 r)

def f97_M : List Nat := []
noncomputable def f97_p1_H (x1 x2 : Nat) (x11 x12 : Int) (x10 : List Int) : GS := ⟨[(0, (.r (.at (.sl 2 x1 x2)))), (6, (GI x11)), (7, (GI x12))], [(2, (.gr (.int .i64) 3 x10 true))]⟩
noncomputable def f97_p1_x : (List Int) → GExit := fun y0 => (.exit 0)
noncomputable def f97_p1_s (x1 x2 : Nat) : (List Int) → GS := fun y0 => ⟨[], [(2, (.gr (.int .i64) 3 y0 true))]⟩
def f97_p1_P (x1 x2 : Nat) (x11 x12 : Int) (x10 : List Int) (r : (List Int)) : Prop := Lp cx f97_M 32 (part Try.f97 1) (f97_p1_H x1 x2 x11 x12 x10) (f97_p1_x r) (f97_p1_s x1 x2 r)
noncomputable def f97_v : (List Int) → G := fun y0 => (.r (.at .unit0))
noncomputable def f97_k0 : (List Int) → List (Nat × Blk) := fun y0 => [(2, (.gr (.int .i64) 3 y0 true))]
noncomputable def f97_k (x1 x2 : Nat) (x3 x4 : Int) (x5 : List Int) : (List Int) → List (Nat × Blk) := fun y0 => [(2, (.gr (.int .i64) 3 y0 true))]
noncomputable def f97_A (x1 x2 : Nat) (x3 x4 : Int) (x5 : List Int) : List G := [(.r (.at (.sl 2 x1 x2))), (GI x3), (GI x4)]
noncomputable def f97_K (x1 x2 : Nat) (x3 x4 : Int) (x5 : List Int) : List (Nat × Blk) := [(2, (.gr (.int .i64) 3 x5 true))]
def f97_C (x1 x2 : Nat) (x3 x4 : Int) (x5 : List Int) (r : (List Int)) : Prop := CallOK cx 97 (f97_A x1 x2 x3 x4 x5) (f97_K x1 x2 x3 x4 x5) [] (f97_v r) (f97_k x1 x2 x3 x4 x5 r)

def f98_M : List Nat := []
noncomputable def f98_p5_1_H (x1 x2 : Nat) (x3 x4 x39 : Int) (x37 : List Int) (x40 : Int) : GS := ⟨[(0, (.r (.at (.sl 2 x1 x2)))), (1, (GI x3)), (2, (GI x4)), (7, (GI x40)), (8, (GI x39))], [(2, (.gr (.int .i64) 3 x37 true))]⟩
noncomputable def f98_p5_1_x : Int → GExit := fun y0 => (.exit 2)
noncomputable def f98_p5_1_s (x1 x2 : Nat) (x3 x4 x39 : Int) (x37 : List Int) : Int → GS := fun y0 => ⟨[(0, (.r (.at (.sl 2 x1 x2)))), (1, (GI x3)), (2, (GI x4)), (7, (GI y0)), (8, (GI x39))], [(2, (.gr (.int .i64) 3 x37 true))]⟩
def f98_p5_1_P (x1 x2 : Nat) (x3 x4 x39 : Int) (x37 : List Int) (x40 : Int) (r : Int) : Prop := Lp cx f98_M 133 (part Try.f98 5) (f98_p5_1_H x1 x2 x3 x4 x39 x37 x40) (f98_p5_1_x r) (f98_p5_1_s x1 x2 x3 x4 x39 x37 r)
noncomputable def f98_p12_1_H (x1 x2 : Nat) (x3 x4 : Int) (x44 x39 x52 : Int) (x51 : List Int) : GS := ⟨[(0, (.r (.at (.sl 2 x1 x2)))), (1, (GI x3)), (2, (GI x4)), (7, (GI x44)), (8, (GI x39)), (9, (GI x52))], [(2, (.gr (.int .i64) 3 x51 true))]⟩
noncomputable def f98_p12_1_x : (List Int) → GExit := fun y0 => (.exit 4)
noncomputable def f98_p12_1_s (x1 x2 : Nat) (x3 x4 : Int) (x44 x39 : Int) : (List Int) → GS := fun y0 => ⟨[(0, (.r (.at (.sl 2 x1 x2)))), (1, (GI x3)), (2, (GI x4)), (7, (GI x44)), (8, (GI x39))], [(2, (.gr (.int .i64) 3 y0 true))]⟩
def f98_p12_1_P (x1 x2 : Nat) (x3 x4 : Int) (x44 x39 x52 : Int) (x51 : List Int) (r : (List Int)) : Prop := Lp cx f98_M 133 (part Try.f98 12) (f98_p12_1_H x1 x2 x3 x4 x44 x39 x52 x51) (f98_p12_1_x r) (f98_p12_1_s x1 x2 x3 x4 x44 x39 r)
noncomputable def f98_p10_1_H (x1 x2 : Nat) (x3 x4 : Int) (x44 x39 : Int) (x37 : List Int) (x45 x46 : Int) : GS := ⟨[(0, (.r (.at (.sl 2 x1 x2)))), (1, (GI x3)), (2, (GI x4)), (7, (GI x44)), (8, (GI x39)), (61, (.r (.at (.bool (decide ((w64 (x44 - x3)) ≥ 2))))))], [(2, (.gr (.int .i64) 3 ((List.set (List.set x37 (x1 + (Int.toNat x44)) x45) (x1 + (Int.toNat (w64 (x44 - 1)))) x46) : List Int) true))]⟩
noncomputable def f98_p10_1_x : (List Int) → GExit := fun y0 => .normal
noncomputable def f98_p10_1_s (x1 x2 : Nat) (x3 x4 : Int) (x44 x39 : Int) (x37 : List Int) (x45 x46 : Int) : (List Int) → GS := fun y0 => ⟨[(0, (.r (.at (.sl 2 x1 x2)))), (1, (GI x3)), (2, (GI x4)), (7, (GI x44)), (8, (GI x39))], [(2, (.gr (.int .i64) 3 y0 true))]⟩
def f98_p10_1_P (x1 x2 : Nat) (x3 x4 : Int) (x44 x39 : Int) (x37 : List Int) (x45 x46 : Int) (r : (List Int)) : Prop := Ex cx f98_M 133 (part Try.f98 10) (f98_p10_1_H x1 x2 x3 x4 x44 x39 x37 x45 x46) (f98_p10_1_x r) (f98_p10_1_s x1 x2 x3 x4 x44 x39 x37 x45 x46 r)
noncomputable def f98_p18_1_H (x1 x2 : Nat) (x3 x4 : Int) (x44 x39 x63 : Int) (x62 : List Int) : GS := ⟨[(0, (.r (.at (.sl 2 x1 x2)))), (1, (GI x3)), (2, (GI x4)), (7, (GI x44)), (8, (GI x39)), (10, (GI x63))], [(2, (.gr (.int .i64) 3 x62 true))]⟩
noncomputable def f98_p18_1_x : (List Int) → GExit := fun y0 => (.exit 6)
noncomputable def f98_p18_1_s (x1 x2 : Nat) (x3 x4 : Int) (x44 x39 : Int) : (List Int) → GS := fun y0 => ⟨[(0, (.r (.at (.sl 2 x1 x2)))), (1, (GI x3)), (2, (GI x4)), (7, (GI x44)), (8, (GI x39))], [(2, (.gr (.int .i64) 3 y0 true))]⟩
def f98_p18_1_P (x1 x2 : Nat) (x3 x4 : Int) (x44 x39 x63 : Int) (x62 : List Int) (r : (List Int)) : Prop := Lp cx f98_M 133 (part Try.f98 18) (f98_p18_1_H x1 x2 x3 x4 x44 x39 x63 x62) (f98_p18_1_x r) (f98_p18_1_s x1 x2 x3 x4 x44 x39 r)
noncomputable def f98_p16_1_H (x1 x2 : Nat) (x3 x4 : Int) (x44 x39 : Int) (x57 : List Int) : GS := ⟨[(0, (.r (.at (.sl 2 x1 x2)))), (1, (GI x3)), (2, (GI x4)), (7, (GI x44)), (8, (GI x39)), (98, (.r (.at (.bool (decide ((w64 (x4 - x44)) ≥ 2))))))], [(2, (.gr (.int .i64) 3 x57 true))]⟩
noncomputable def f98_p16_1_x : (List Int) → GExit := fun y0 => .normal
noncomputable def f98_p16_1_s (x1 x2 : Nat) (x3 x4 : Int) (x44 x39 : Int) (x57 : List Int) : (List Int) → GS := fun y0 => ⟨[(0, (.r (.at (.sl 2 x1 x2)))), (1, (GI x3)), (2, (GI x4)), (7, (GI x44)), (8, (GI x39))], [(2, (.gr (.int .i64) 3 y0 true))]⟩
def f98_p16_1_P (x1 x2 : Nat) (x3 x4 : Int) (x44 x39 : Int) (x57 : List Int) (r : (List Int)) : Prop := Ex cx f98_M 133 (part Try.f98 16) (f98_p16_1_H x1 x2 x3 x4 x44 x39 x57) (f98_p16_1_x r) (f98_p16_1_s x1 x2 x3 x4 x44 x39 x57 r)
noncomputable def f98_p1_8_H (x1 x2 : Nat) (x3 x4 : Int) (x38 x39 : Int) (x37 : List Int) : GS := ⟨[(0, (.r (.at (.sl 2 x1 x2)))), (1, (GI x3)), (2, (GI x4)), (7, (GI x38)), (8, (GI x39))], [(2, (.gr (.int .i64) 3 x37 true))]⟩
noncomputable def f98_p1_8_x : f98_p1_8_R → GExit := fun
  | .c0 y0 y1 => .ret
  | .c1 y0 => (.exit 0)
noncomputable def f98_p1_8_s (x1 x2 : Nat) (x3 x4 : Int) : f98_p1_8_R → GS := fun
  | .c0 y0 y1 => ⟨[(6, (GB y0))], [(2, (.gr (.int .i64) 3 y1 true))]⟩
  | .c1 y0 => ⟨[], [(2, (.gr (.int .i64) 3 y0 true))]⟩
def f98_p1_8_P (x1 x2 : Nat) (x3 x4 : Int) (x38 x39 : Int) (x37 : List Int) (r : f98_p1_8_R) : Prop := Lp cx f98_M 133 (part Try.f98 1) (f98_p1_8_H x1 x2 x3 x4 x38 x39 x37) (f98_p1_8_x r) (f98_p1_8_s x1 x2 x3 x4 r)
noncomputable def f98_v : (Bool × (List Int)) → G := fun (y0, y1) => (GB y0)
noncomputable def f98_k0 : (Bool × (List Int)) → List (Nat × Blk) := fun (y0, y1) => [(2, (.gr (.int .i64) 3 y1 true))]
noncomputable def f98_k (x1 x2 : Nat) (x3 x4 : Int) (x5 : List Int) : (Bool × (List Int)) → List (Nat × Blk) := fun (y0, y1) => [(2, (.gr (.int .i64) 3 y1 true))]
noncomputable def f98_A (x1 x2 : Nat) (x3 x4 : Int) (x5 : List Int) : List G := [(.r (.at (.sl 2 x1 x2))), (GI x3), (GI x4)]
noncomputable def f98_K (x1 x2 : Nat) (x3 x4 : Int) (x5 : List Int) : List (Nat × Blk) := [(2, (.gr (.int .i64) 3 x5 true))]
def f98_C (x1 x2 : Nat) (x3 x4 : Int) (x5 : List Int) (r : Bool × (List Int)) : Prop := CallOK cx 98 (f98_A x1 x2 x3 x4 x5) (f98_K x1 x2 x3 x4 x5) [] (f98_v r) (f98_k x1 x2 x3 x4 x5 r)

def f101_M : List Nat := []
noncomputable def f101_p1_H (x1 x2 : Nat) (x3 x4 : Int) (x6 : List Int) (x7 x5 : Int) (x8 x9 : Int) : GS := ⟨[(0, (.r (.at (.sl 2 x1 x2)))), (1, (GI x3)), (10, (GI x9)), (11, (.r (.at (.int .i64 (w64 (x4 - 1))))))], [(2, (.gr (.int .i64) 3 ((List.set (List.set x6 (x1 + (Int.toNat x3)) x7) (x1 + (Int.toNat x5)) x8) : List Int) true))]⟩
noncomputable def f101_p1_x : Int → GExit := fun y0 => (.exit 0)
noncomputable def f101_p1_s (x1 x2 : Nat) (x3 x4 : Int) (x6 : List Int) (x7 x5 x8 : Int) : Int → GS := fun y0 => ⟨[(0, (.r (.at (.sl 2 x1 x2)))), (1, (GI x3)), (10, (GI y0)), (11, (.r (.at (.int .i64 (w64 (x4 - 1))))))], [(2, (.gr (.int .i64) 3 ((List.set (List.set x6 (x1 + (Int.toNat x3)) x7) (x1 + (Int.toNat x5)) x8) : List Int) true))]⟩
def f101_p1_P (x1 x2 : Nat) (x3 x4 : Int) (x6 : List Int) (x7 x5 : Int) (x8 x9 : Int) (r : Int) : Prop := Lp cx f101_M 168 (part Try.f101 1) (f101_p1_H x1 x2 x3 x4 x6 x7 x5 x8 x9) (f101_p1_x r) (f101_p1_s x1 x2 x3 x4 x6 x7 x5 x8 r)
noncomputable def f101_p5_H (x1 x2 : Nat) (x3 x13 : Int) (x6 : List Int) (x7 x5 : Int) (x8 x14 : Int) : GS := ⟨[(0, (.r (.at (.sl 2 x1 x2)))), (1, (GI x3)), (10, (GI x13)), (11, (GI x14))], [(2, (.gr (.int .i64) 3 ((List.set (List.set x6 (x1 + (Int.toNat x3)) x7) (x1 + (Int.toNat x5)) x8) : List Int) true))]⟩
noncomputable def f101_p5_x : Int → GExit := fun y0 => (.exit 2)
noncomputable def f101_p5_s (x1 x2 : Nat) (x3 x13 : Int) (x6 : List Int) (x7 x5 x8 : Int) : Int → GS := fun y0 => ⟨[(0, (.r (.at (.sl 2 x1 x2)))), (1, (GI x3)), (10, (GI x13)), (11, (GI y0))], [(2, (.gr (.int .i64) 3 ((List.set (List.set x6 (x1 + (Int.toNat x3)) x7) (x1 + (Int.toNat x5)) x8) : List Int) true))]⟩
def f101_p5_P (x1 x2 : Nat) (x3 x13 : Int) (x6 : List Int) (x7 x5 : Int) (x8 x14 : Int) (r : Int) : Prop := Lp cx f101_M 168 (part Try.f101 5) (f101_p5_H x1 x2 x3 x13 x6 x7 x5 x8 x14) (f101_p5_x r) (f101_p5_s x1 x2 x3 x13 x6 x7 x5 x8 r)
noncomputable def f101_p13_1_H (x1 x2 : Nat) (x3 x39 : Int) (x37 : List Int) (x40 : Int) : GS := ⟨[(0, (.r (.at (.sl 2 x1 x2)))), (1, (GI x3)), (10, (GI x40)), (11, (GI x39))], [(2, (.gr (.int .i64) 3 x37 true))]⟩
noncomputable def f101_p13_1_x : Int → GExit := fun y0 => (.exit 6)
noncomputable def f101_p13_1_s (x1 x2 : Nat) (x3 x39 : Int) (x37 : List Int) : Int → GS := fun y0 => ⟨[(0, (.r (.at (.sl 2 x1 x2)))), (1, (GI x3)), (10, (GI y0)), (11, (GI x39))], [(2, (.gr (.int .i64) 3 x37 true))]⟩
def f101_p13_1_P (x1 x2 : Nat) (x3 x39 : Int) (x37 : List Int) (x40 : Int) (r : Int) : Prop := Lp cx f101_M 168 (part Try.f101 13) (f101_p13_1_H x1 x2 x3 x39 x37 x40) (f101_p13_1_x r) (f101_p13_1_s x1 x2 x3 x39 x37 r)
noncomputable def f101_p17_1_H (x1 x2 : Nat) (x3 x44 : Int) (x37 : List Int) (x45 : Int) : GS := ⟨[(0, (.r (.at (.sl 2 x1 x2)))), (1, (GI x3)), (10, (GI x44)), (11, (GI x45))], [(2, (.gr (.int .i64) 3 x37 true))]⟩
noncomputable def f101_p17_1_x : Int → GExit := fun y0 => (.exit 8)
noncomputable def f101_p17_1_s (x1 x2 : Nat) (x3 x44 : Int) (x37 : List Int) : Int → GS := fun y0 => ⟨[(0, (.r (.at (.sl 2 x1 x2)))), (1, (GI x3)), (10, (GI x44)), (11, (GI y0))], [(2, (.gr (.int .i64) 3 x37 true))]⟩
def f101_p17_1_P (x1 x2 : Nat) (x3 x44 : Int) (x37 : List Int) (x45 : Int) (r : Int) : Prop := Lp cx f101_M 168 (part Try.f101 17) (f101_p17_1_H x1 x2 x3 x44 x37 x45) (f101_p17_1_x r) (f101_p17_1_s x1 x2 x3 x44 x37 r)
noncomputable def f101_p10_H (x1 x2 : Nat) (x3 x38 x39 : Int) (x37 : List Int) : GS := ⟨[(0, (.r (.at (.sl 2 x1 x2)))), (1, (GI x3)), (10, (GI x38)), (11, (GI x39))], [(2, (.gr (.int .i64) 3 x37 true))]⟩
noncomputable def f101_p10_x : (Int × (List Int)) → GExit := fun (y0, y1) => (.exit 4)
noncomputable def f101_p10_s (x1 x2 : Nat) (x3 : Int) : (Int × (List Int)) → GS := fun (y0, y1) => ⟨[(0, (.r (.at (.sl 2 x1 x2)))), (1, (GI x3)), (11, (GI y0))], [(2, (.gr (.int .i64) 3 y1 true))]⟩
def f101_p10_P (x1 x2 : Nat) (x3 x38 x39 : Int) (x37 : List Int) (r : Int × (List Int)) : Prop := Lp cx f101_M 168 (part Try.f101 10) (f101_p10_H x1 x2 x3 x38 x39 x37) (f101_p10_x r) (f101_p10_s x1 x2 x3 r)
noncomputable def f101_v : (Int × Bool × (List Int)) → G := fun (y0, y1, y2) => (.tup [(.at (.int .i64 y0)), (.at (.bool y1))])
noncomputable def f101_k0 : (Int × Bool × (List Int)) → List (Nat × Blk) := fun (y0, y1, y2) => [(2, (.gr (.int .i64) 3 y2 true))]
noncomputable def f101_k (x1 x2 : Nat) (x3 x4 x5 : Int) (x6 : List Int) : (Int × Bool × (List Int)) → List (Nat × Blk) := fun (y0, y1, y2) => [(2, (.gr (.int .i64) 3 y2 true))]
noncomputable def f101_A (x1 x2 : Nat) (x3 x4 x5 : Int) (x6 : List Int) : List G := [(.r (.at (.sl 2 x1 x2))), (GI x3), (GI x4), (GI x5)]
noncomputable def f101_K (x1 x2 : Nat) (x3 x4 x5 : Int) (x6 : List Int) : List (Nat × Blk) := [(2, (.gr (.int .i64) 3 x6 true))]
def f101_C (x1 x2 : Nat) (x3 x4 x5 : Int) (x6 : List Int) (r : Int × Bool × (List Int)) : Prop := CallOK cx 101 (f101_A x1 x2 x3 x4 x5 x6) (f101_K x1 x2 x3 x4 x5 x6) [] (f101_v r) (f101_k x1 x2 x3 x4 x5 x6 r)

def f100_M : List Nat := []
noncomputable def f100_p4_1_H (x1 x2 : Nat) (x3 x25 : Int) (x23 : List Int) (x26 : Int) : GS := ⟨[(0, (.r (.at (.sl 2 x1 x2)))), (1, (GI x3)), (9, (GI x26)), (10, (GI x25))], [(2, (.gr (.int .i64) 3 x23 true))]⟩
noncomputable def f100_p4_1_x : Int → GExit := fun y0 => (.exit 2)
noncomputable def f100_p4_1_s (x1 x2 : Nat) (x3 x25 : Int) (x23 : List Int) : Int → GS := fun y0 => ⟨[(0, (.r (.at (.sl 2 x1 x2)))), (1, (GI x3)), (9, (GI y0)), (10, (GI x25))], [(2, (.gr (.int .i64) 3 x23 true))]⟩
def f100_p4_1_P (x1 x2 : Nat) (x3 x25 : Int) (x23 : List Int) (x26 : Int) (r : Int) : Prop := Lp cx f100_M 84 (part Try.f100 4) (f100_p4_1_H x1 x2 x3 x25 x23 x26) (f100_p4_1_x r) (f100_p4_1_s x1 x2 x3 x25 x23 r)
noncomputable def f100_p8_1_H (x1 x2 : Nat) (x3 x30 : Int) (x23 : List Int) (x31 : Int) : GS := ⟨[(0, (.r (.at (.sl 2 x1 x2)))), (1, (GI x3)), (9, (GI x30)), (10, (GI x31))], [(2, (.gr (.int .i64) 3 x23 true))]⟩
noncomputable def f100_p8_1_x : Int → GExit := fun y0 => (.exit 4)
noncomputable def f100_p8_1_s (x1 x2 : Nat) (x3 x30 : Int) (x23 : List Int) : Int → GS := fun y0 => ⟨[(0, (.r (.at (.sl 2 x1 x2)))), (1, (GI x3)), (9, (GI x30)), (10, (GI y0))], [(2, (.gr (.int .i64) 3 x23 true))]⟩
def f100_p8_1_P (x1 x2 : Nat) (x3 x30 : Int) (x23 : List Int) (x31 : Int) (r : Int) : Prop := Lp cx f100_M 84 (part Try.f100 8) (f100_p8_1_H x1 x2 x3 x30 x23 x31) (f100_p8_1_x r) (f100_p8_1_s x1 x2 x3 x30 x23 r)
noncomputable def f100_p1_H (x1 x2 : Nat) (x3 x24 x25 : Int) (x23 : List Int) : GS := ⟨[(0, (.r (.at (.sl 2 x1 x2)))), (1, (GI x3)), (9, (GI x24)), (10, (GI x25))], [(2, (.gr (.int .i64) 3 x23 true))]⟩
noncomputable def f100_p1_x : (Int × (List Int)) → GExit := fun (y0, y1) => (.exit 0)
noncomputable def f100_p1_s (x1 x2 : Nat) (x3 : Int) : (Int × (List Int)) → GS := fun (y0, y1) => ⟨[(9, (GI y0))], [(2, (.gr (.int .i64) 3 y1 true))]⟩
def f100_p1_P (x1 x2 : Nat) (x3 x24 x25 : Int) (x23 : List Int) (r : Int × (List Int)) : Prop := Lp cx f100_M 84 (part Try.f100 1) (f100_p1_H x1 x2 x3 x24 x25 x23) (f100_p1_x r) (f100_p1_s x1 x2 x3 r)
noncomputable def f100_v : (Int × (List Int)) → G := fun (y0, y1) => (GI y0)
noncomputable def f100_k0 : (Int × (List Int)) → List (Nat × Blk) := fun (y0, y1) => [(2, (.gr (.int .i64) 3 y1 true))]
noncomputable def f100_k (x1 x2 : Nat) (x3 x4 x5 : Int) (x6 : List Int) : (Int × (List Int)) → List (Nat × Blk) := fun (y0, y1) => [(2, (.gr (.int .i64) 3 y1 true))]
noncomputable def f100_A (x1 x2 : Nat) (x3 x4 x5 : Int) (x6 : List Int) : List G := [(.r (.at (.sl 2 x1 x2))), (GI x3), (GI x4), (GI x5)]
noncomputable def f100_K (x1 x2 : Nat) (x3 x4 x5 : Int) (x6 : List Int) : List (Nat × Blk) := [(2, (.gr (.int .i64) 3 x6 true))]
def f100_C (x1 x2 : Nat) (x3 x4 x5 : Int) (x6 : List Int) (r : Int × (List Int)) : Prop := CallOK cx 100 (f100_A x1 x2 x3 x4 x5 x6) (f100_K x1 x2 x3 x4 x5 x6) [] (f100_v r) (f100_k x1 x2 x3 x4 x5 x6 r)

def f83_M : List Nat := []
noncomputable def f83_p5_1_H (x1 x2 : Nat) (x40 x41 x42 : Int) (x43 x44 : Bool) (x39 : List Int) : GS := ⟨[(0, (.r (.at (.sl 2 x1 x2)))), (1, (GI x40)), (2, (GI x41)), (3, (GI x42)), (8, (GB x43)), (9, (GB x44)), (10, (.r (.at (.int .i64 (w64 (x41 - x40)))))), (35, (.r (.at (.bool (!x43)))))], [(2, (.gr (.int .i64) 3 x39 true))]⟩
noncomputable def f83_p5_1_x : (Int × (List Int)) → GExit := fun (y0, y1) => .normal
noncomputable def f83_p5_1_s (x1 x2 : Nat) (x40 x41 x42 : Int) (x43 x44 : Bool) (x39 : List Int) : (Int × (List Int)) → GS := fun (y0, y1) => ⟨[(0, (.r (.at (.sl 2 x1 x2)))), (1, (GI x40)), (2, (GI x41)), (3, (GI y0)), (8, (GB x43)), (9, (GB x44)), (10, (.r (.at (.int .i64 (w64 (x41 - x40))))))], [(2, (.gr (.int .i64) 3 y1 true))]⟩
def f83_p5_1_P (x1 x2 : Nat) (x40 x41 x42 : Int) (x43 x44 : Bool) (x39 : List Int) (r : Int × (List Int)) : Prop := Ex cx f83_M 134 (part Try.f83 5) (f83_p5_1_H x1 x2 x40 x41 x42 x43 x44 x39) (f83_p5_1_x r) (f83_p5_1_s x1 x2 x40 x41 x42 x43 x44 x39 r)
noncomputable def f83_p6_1_H (x1 x2 : Nat) (x40 x41 x48 : Int) (x43 x44 : Bool) (x50 x51 : Int) (x49 : List Int) : GS := ⟨[(0, (.r (.at (.sl 2 x1 x2)))), (1, (GI x40)), (2, (GI x41)), (3, (GI x48)), (8, (GB x43)), (9, (GB x44)), (10, (.r (.at (.int .i64 (w64 (x41 - x40)))))), (11, (GI x50)), (12, (GI x51)), (50, (.r (.at (.bool (x51 == 2)))))], [(2, (.gr (.int .i64) 3 x49 true))]⟩
noncomputable def f83_p6_1_x : (Int × Int × (List Int)) → GExit := fun (y0, y1, y2) => .normal
noncomputable def f83_p6_1_s (x1 x2 : Nat) (x40 x41 x48 : Int) (x43 x44 : Bool) (x50 x51 : Int) (x49 : List Int) : (Int × Int × (List Int)) → GS := fun (y0, y1, y2) => ⟨[(0, (.r (.at (.sl 2 x1 x2)))), (1, (GI x40)), (2, (GI x41)), (3, (GI x48)), (8, (GB x43)), (9, (GB x44)), (10, (.r (.at (.int .i64 (w64 (x41 - x40)))))), (11, (GI y0)), (12, (GI y1))], [(2, (.gr (.int .i64) 3 y2 true))]⟩
def f83_p6_1_P (x1 x2 : Nat) (x40 x41 x48 : Int) (x43 x44 : Bool) (x50 x51 : Int) (x49 : List Int) (r : Int × Int × (List Int)) : Prop := Ex cx f83_M 134 (part Try.f83 6) (f83_p6_1_H x1 x2 x40 x41 x48 x43 x44 x50 x51 x49) (f83_p6_1_x r) (f83_p6_1_s x1 x2 x40 x41 x48 x43 x44 x50 x51 x49 r)
noncomputable def f83_p7_1_H (x1 x2 : Nat) (x40 x41 x48 : Int) (x43 x44 : Bool) (x53 x54 : Int) (x55 : List Int) : GS := ⟨[(0, (.r (.at (.sl 2 x1 x2)))), (1, (GI x40)), (2, (GI x41)), (3, (GI x48)), (8, (GB x43)), (9, (GB x44)), (10, (.r (.at (.int .i64 (w64 (x41 - x40)))))), (11, (GI x53)), (68, (.r (.at (.bool (x54 == 1)))))], [(2, (.gr (.int .i64) 3 x55 true))]⟩
noncomputable def f83_p7_1_x : f83_p7_1_R → GExit := fun
  | .c0 y0 => .ret
  | .c1 y0 => .normal
noncomputable def f83_p7_1_s (x1 x2 : Nat) (x40 x41 x48 : Int) (x43 x44 : Bool) (x53 x54 : Int) (x55 : List Int) : f83_p7_1_R → GS := fun
  | .c0 y0 => ⟨[], [(2, (.gr (.int .i64) 3 y0 true))]⟩
  | .c1 y0 => ⟨[(0, (.r (.at (.sl 2 x1 x2)))), (1, (GI x40)), (2, (GI x41)), (3, (GI x48)), (8, (GB x43)), (9, (GB x44)), (10, (.r (.at (.int .i64 (w64 (x41 - x40)))))), (11, (GI x53))], [(2, (.gr (.int .i64) 3 y0 true))]⟩
def f83_p7_1_P (x1 x2 : Nat) (x40 x41 x48 : Int) (x43 x44 : Bool) (x53 x54 : Int) (x55 : List Int) (r : f83_p7_1_R) : Prop := Ex cx f83_M 134 (part Try.f83 7) (f83_p7_1_H x1 x2 x40 x41 x48 x43 x44 x53 x54 x55) (f83_p7_1_x r) (f83_p7_1_s x1 x2 x40 x41 x48 x43 x44 x53 x54 x55 r)
noncomputable def f83_p10_1_H (x1 x2 : Nat) (x40 x41 x48 : Int) (x64 : Bool) (x63 : Int) (x65 : List Int) : GS := ⟨[(0, (.r (.at (.sl 2 x1 x2)))), (1, (GI x40)), (2, (GI x41)), (3, (GI x48)), (9, (GB x64)), (14, (GI x63)), (16, (.r (.at (.int .i64 (w64 (x63 - x40)))))), (17, (.r (.at (.int .i64 (w64 (x41 - x63)))))), (18, (.r (.at (.int .i64 (w64 (Int.tdiv (w64 (x41 - x40)) 8)))))), (113, (.r (.at (.bool (decide ((w64 (x63 - x40)) < (w64 (x41 - x63))))))))], [(2, (.gr (.int .i64) 3 x65 true))]⟩
noncomputable def f83_p10_1_x : (Int × Int × Bool × (List Int)) → GExit := fun (y0, y1, y2, y3) => .normal
noncomputable def f83_p10_1_s (x1 x2 : Nat) (x40 x41 x48 : Int) (x64 : Bool) (x63 : Int) (x65 : List Int) : (Int × Int × Bool × (List Int)) → GS := fun (y0, y1, y2, y3) => ⟨[(0, (.r (.at (.sl 2 x1 x2)))), (1, (GI y0)), (2, (GI y1)), (3, (GI x48)), (8, (GB y2)), (9, (GB x64))], [(2, (.gr (.int .i64) 3 y3 true))]⟩
def f83_p10_1_P (x1 x2 : Nat) (x40 x41 x48 : Int) (x64 : Bool) (x63 : Int) (x65 : List Int) (r : Int × Int × Bool × (List Int)) : Prop := Ex cx f83_M 134 (part Try.f83 10) (f83_p10_1_H x1 x2 x40 x41 x48 x64 x63 x65) (f83_p10_1_x r) (f83_p10_1_s x1 x2 x40 x41 x48 x64 x63 x65 r)
noncomputable def f83_p10_2_H (x1 x2 : Nat) (x40 x41 x48 : Int) (x75 : Bool) (x74 : Int) (x76 : List Int) : GS := ⟨[(0, (.r (.at (.sl 2 x1 x2)))), (1, (GI x40)), (2, (GI x41)), (3, (GI x48)), (9, (GB x75)), (14, (GI x74)), (16, (.r (.at (.int .i64 (w64 (x74 - x40)))))), (17, (.r (.at (.int .i64 (w64 (x41 - x74)))))), (18, (.r (.at (.int .i64 (w64 (Int.tdiv (w64 (x41 - x40)) 8)))))), (113, (.r (.at (.bool (decide ((w64 (x74 - x40)) < (w64 (x41 - x74))))))))], [(2, (.gr (.int .i64) 3 x76 true))]⟩
noncomputable def f83_p10_2_x : (Int × Int × Bool × (List Int)) → GExit := fun (y0, y1, y2, y3) => .normal
noncomputable def f83_p10_2_s (x1 x2 : Nat) (x40 x41 x48 : Int) (x75 : Bool) (x74 : Int) (x76 : List Int) : (Int × Int × Bool × (List Int)) → GS := fun (y0, y1, y2, y3) => ⟨[(0, (.r (.at (.sl 2 x1 x2)))), (1, (GI y0)), (2, (GI y1)), (3, (GI x48)), (8, (GB y2)), (9, (GB x75))], [(2, (.gr (.int .i64) 3 y3 true))]⟩
def f83_p10_2_P (x1 x2 : Nat) (x40 x41 x48 : Int) (x75 : Bool) (x74 : Int) (x76 : List Int) (r : Int × Int × Bool × (List Int)) : Prop := Ex cx f83_M 134 (part Try.f83 10) (f83_p10_2_H x1 x2 x40 x41 x48 x75 x74 x76) (f83_p10_2_x r) (f83_p10_2_s x1 x2 x40 x41 x48 x75 x74 x76 r)
noncomputable def f83_p10_3_H (x1 x2 : Nat) (x40 x41 x48 : Int) (x87 : Bool) (x86 : Int) (x88 : List Int) : GS := ⟨[(0, (.r (.at (.sl 2 x1 x2)))), (1, (GI x40)), (2, (GI x41)), (3, (GI x48)), (9, (GB x87)), (14, (GI x86)), (16, (.r (.at (.int .i64 (w64 (x86 - x40)))))), (17, (.r (.at (.int .i64 (w64 (x41 - x86)))))), (18, (.r (.at (.int .i64 (w64 (Int.tdiv (w64 (x41 - x40)) 8)))))), (113, (.r (.at (.bool (decide ((w64 (x86 - x40)) < (w64 (x41 - x86))))))))], [(2, (.gr (.int .i64) 3 x88 true))]⟩
noncomputable def f83_p10_3_x : (Int × Int × Bool × (List Int)) → GExit := fun (y0, y1, y2, y3) => .normal
noncomputable def f83_p10_3_s (x1 x2 : Nat) (x40 x41 x48 : Int) (x87 : Bool) (x86 : Int) (x88 : List Int) : (Int × Int × Bool × (List Int)) → GS := fun (y0, y1, y2, y3) => ⟨[(0, (.r (.at (.sl 2 x1 x2)))), (1, (GI y0)), (2, (GI y1)), (3, (GI x48)), (8, (GB y2)), (9, (GB x87))], [(2, (.gr (.int .i64) 3 y3 true))]⟩
def f83_p10_3_P (x1 x2 : Nat) (x40 x41 x48 : Int) (x87 : Bool) (x86 : Int) (x88 : List Int) (r : Int × Int × Bool × (List Int)) : Prop := Ex cx f83_M 134 (part Try.f83 10) (f83_p10_3_H x1 x2 x40 x41 x48 x87 x86 x88) (f83_p10_3_x r) (f83_p10_3_s x1 x2 x40 x41 x48 x87 x86 x88 r)
noncomputable def f83_p10_4_H (x1 x2 : Nat) (x40 x41 x48 : Int) (x98 : Bool) (x97 : Int) (x99 : List Int) : GS := ⟨[(0, (.r (.at (.sl 2 x1 x2)))), (1, (GI x40)), (2, (GI x41)), (3, (GI x48)), (9, (GB x98)), (14, (GI x97)), (16, (.r (.at (.int .i64 (w64 (x97 - x40)))))), (17, (.r (.at (.int .i64 (w64 (x41 - x97)))))), (18, (.r (.at (.int .i64 (w64 (Int.tdiv (w64 (x41 - x40)) 8)))))), (113, (.r (.at (.bool (decide ((w64 (x97 - x40)) < (w64 (x41 - x97))))))))], [(2, (.gr (.int .i64) 3 x99 true))]⟩
noncomputable def f83_p10_4_x : (Int × Int × Bool × (List Int)) → GExit := fun (y0, y1, y2, y3) => .normal
noncomputable def f83_p10_4_s (x1 x2 : Nat) (x40 x41 x48 : Int) (x98 : Bool) (x97 : Int) (x99 : List Int) : (Int × Int × Bool × (List Int)) → GS := fun (y0, y1, y2, y3) => ⟨[(0, (.r (.at (.sl 2 x1 x2)))), (1, (GI y0)), (2, (GI y1)), (3, (GI x48)), (8, (GB y2)), (9, (GB x98))], [(2, (.gr (.int .i64) 3 y3 true))]⟩
def f83_p10_4_P (x1 x2 : Nat) (x40 x41 x48 : Int) (x98 : Bool) (x97 : Int) (x99 : List Int) (r : Int × Int × Bool × (List Int)) : Prop := Ex cx f83_M 134 (part Try.f83 10) (f83_p10_4_H x1 x2 x40 x41 x48 x98 x97 x99) (f83_p10_4_x r) (f83_p10_4_s x1 x2 x40 x41 x48 x98 x97 x99 r)
noncomputable def f83_p10_5_H (x1 x2 : Nat) (x40 x41 x48 : Int) (x110 : Bool) (x109 : Int) (x111 : List Int) : GS := ⟨[(0, (.r (.at (.sl 2 x1 x2)))), (1, (GI x40)), (2, (GI x41)), (3, (GI x48)), (9, (GB x110)), (14, (GI x109)), (16, (.r (.at (.int .i64 (w64 (x109 - x40)))))), (17, (.r (.at (.int .i64 (w64 (x41 - x109)))))), (18, (.r (.at (.int .i64 (w64 (Int.tdiv (w64 (x41 - x40)) 8)))))), (113, (.r (.at (.bool (decide ((w64 (x109 - x40)) < (w64 (x41 - x109))))))))], [(2, (.gr (.int .i64) 3 x111 true))]⟩
noncomputable def f83_p10_5_x : (Int × Int × Bool × (List Int)) → GExit := fun (y0, y1, y2, y3) => .normal
noncomputable def f83_p10_5_s (x1 x2 : Nat) (x40 x41 x48 : Int) (x110 : Bool) (x109 : Int) (x111 : List Int) : (Int × Int × Bool × (List Int)) → GS := fun (y0, y1, y2, y3) => ⟨[(0, (.r (.at (.sl 2 x1 x2)))), (1, (GI y0)), (2, (GI y1)), (3, (GI x48)), (8, (GB y2)), (9, (GB x110))], [(2, (.gr (.int .i64) 3 y3 true))]⟩
def f83_p10_5_P (x1 x2 : Nat) (x40 x41 x48 : Int) (x110 : Bool) (x109 : Int) (x111 : List Int) (r : Int × Int × Bool × (List Int)) : Prop := Ex cx f83_M 134 (part Try.f83 10) (f83_p10_5_H x1 x2 x40 x41 x48 x110 x109 x111) (f83_p10_5_x r) (f83_p10_5_s x1 x2 x40 x41 x48 x110 x109 x111 r)
noncomputable def f83_p10_6_H (x1 x2 : Nat) (x40 x41 x48 : Int) (x121 : Bool) (x120 : Int) (x122 : List Int) : GS := ⟨[(0, (.r (.at (.sl 2 x1 x2)))), (1, (GI x40)), (2, (GI x41)), (3, (GI x48)), (9, (GB x121)), (14, (GI x120)), (16, (.r (.at (.int .i64 (w64 (x120 - x40)))))), (17, (.r (.at (.int .i64 (w64 (x41 - x120)))))), (18, (.r (.at (.int .i64 (w64 (Int.tdiv (w64 (x41 - x40)) 8)))))), (113, (.r (.at (.bool (decide ((w64 (x120 - x40)) < (w64 (x41 - x120))))))))], [(2, (.gr (.int .i64) 3 x122 true))]⟩
noncomputable def f83_p10_6_x : (Int × Int × Bool × (List Int)) → GExit := fun (y0, y1, y2, y3) => .normal
noncomputable def f83_p10_6_s (x1 x2 : Nat) (x40 x41 x48 : Int) (x121 : Bool) (x120 : Int) (x122 : List Int) : (Int × Int × Bool × (List Int)) → GS := fun (y0, y1, y2, y3) => ⟨[(0, (.r (.at (.sl 2 x1 x2)))), (1, (GI y0)), (2, (GI y1)), (3, (GI x48)), (8, (GB y2)), (9, (GB x121))], [(2, (.gr (.int .i64) 3 y3 true))]⟩
def f83_p10_6_P (x1 x2 : Nat) (x40 x41 x48 : Int) (x121 : Bool) (x120 : Int) (x122 : List Int) (r : Int × Int × Bool × (List Int)) : Prop := Ex cx f83_M 134 (part Try.f83 10) (f83_p10_6_H x1 x2 x40 x41 x48 x121 x120 x122) (f83_p10_6_x r) (f83_p10_6_s x1 x2 x40 x41 x48 x121 x120 x122 r)
noncomputable def f83_p1_7_H (x1 x2 : Nat) (x40 x41 x42 : Int) (x43 x44 : Bool) (x39 : List Int) : GS := ⟨[(0, (.r (.at (.sl 2 x1 x2)))), (1, (GI x40)), (2, (GI x41)), (3, (GI x42)), (8, (GB x43)), (9, (GB x44))], [(2, (.gr (.int .i64) 3 x39 true))]⟩
noncomputable def f83_p1_7_x : (List Int) → GExit := fun y0 => .ret
noncomputable def f83_p1_7_s (x1 x2 : Nat) : (List Int) → GS := fun y0 => ⟨[], [(2, (.gr (.int .i64) 3 y0 true))]⟩
def f83_p1_7_P (x1 x2 : Nat) (x40 x41 x42 : Int) (x43 x44 : Bool) (x39 : List Int) (r : (List Int)) : Prop := Lp cx f83_M 134 (part Try.f83 1) (f83_p1_7_H x1 x2 x40 x41 x42 x43 x44 x39) (f83_p1_7_x r) (f83_p1_7_s x1 x2 r)
noncomputable def f83_v : (List Int) → G := fun y0 => (.r (.at .unit0))
noncomputable def f83_k0 : (List Int) → List (Nat × Blk) := fun y0 => [(2, (.gr (.int .i64) 3 y0 true))]
noncomputable def f83_k (x1 x2 : Nat) (x3 x4 x5 : Int) (x6 : List Int) : (List Int) → List (Nat × Blk) := fun y0 => [(2, (.gr (.int .i64) 3 y0 true))]
noncomputable def f83_A (x1 x2 : Nat) (x3 x4 x5 : Int) (x6 : List Int) : List G := [(.r (.at (.sl 2 x1 x2))), (GI x3), (GI x4), (GI x5)]
noncomputable def f83_K (x1 x2 : Nat) (x3 x4 x5 : Int) (x6 : List Int) : List (Nat × Blk) := [(2, (.gr (.int .i64) 3 x6 true))]
def f83_C (x1 x2 : Nat) (x3 x4 x5 : Int) (x6 : List Int) (r : (List Int)) : Prop := CallOK cx 83 (f83_A x1 x2 x3 x4 x5 x6) (f83_K x1 x2 x3 x4 x5 x6) [] (f83_v r) (f83_k x1 x2 x3 x4 x5 x6 r)

def f49_M : List Nat := []
noncomputable def f49_v : (List Int) → G := fun y0 => (.r (.at .unit0))
noncomputable def f49_k0 : (List Int) → List (Nat × Blk) := fun y0 => [(2, (.gr (.int .i64) 3 y0 true))]
noncomputable def f49_k (x1 : List Int) : (List Int) → List (Nat × Blk) := fun y0 => [(2, (.gr (.int .i64) 3 y0 true))]
noncomputable def f49_A (x1 : List Int) : List G := [(.r (.at (.sl 2 0 (List.length x1))))]
noncomputable def f49_K (x1 : List Int) : List (Nat × Blk) := [(2, (.gr (.int .i64) 3 x1 true))]
def f49_C (x1 : List Int) (r : (List Int)) : Prop := CallOK cx 49 (f49_A x1) (f49_K x1) [] (f49_v r) (f49_k x1 r)

def f70_M : List Nat := [2]
noncomputable def f70_p7_1_H (x4 : List Int) (x14 x13 x16 : Int) (x15 : List Int) : GS := ⟨[(5, (GL x4)), (6, (.r (.at (.sl 2 0 (List.length x15))))), (8, (GI x14)), (9, (GI x16)), (22, (GL x4)), (23, (.r (.at (.int .i64 ((List.length x4 : Nat) : Int))))), (24, (GI x13))], [(2, (.gr (.int .i64) 3 x15 true))]⟩
noncomputable def f70_p7_1_x : (List Int) → GExit := fun y0 => (.exit 2)
noncomputable def f70_p7_1_s (x4 : List Int) (x14 x13 : Int) : (List Int) → GS := fun y0 => ⟨[(5, (GL x4)), (6, (.r (.at (.sl 2 0 (List.length y0))))), (22, (GL x4)), (23, (.r (.at (.int .i64 ((List.length x4 : Nat) : Int))))), (24, (GI x13))], [(2, (.gr (.int .i64) 3 y0 true))]⟩
def f70_p7_1_P (x4 : List Int) (x14 x13 x16 : Int) (x15 : List Int) (r : (List Int)) : Prop := Lp cx f70_M 45 (part Try.f70 7) (f70_p7_1_H x4 x14 x13 x16 x15) (f70_p7_1_x r) (f70_p7_1_s x4 x14 x13 r)
noncomputable def f70_p3_H (x4 : List Int) (x13 : Int) (x12 : List Int) : GS := ⟨[(5, (GL x4)), (6, (.r (.at (.sl 2 0 (List.length x12))))), (22, (GL x4)), (23, (.r (.at (.int .i64 ((List.length x4 : Nat) : Int))))), (24, (GI x13))], [(2, (.gr (.int .i64) 3 x12 true))]⟩
noncomputable def f70_p3_x : (List Int) → GExit := fun y0 => (.exit 0)
noncomputable def f70_p3_s (x4 : List Int) : (List Int) → GS := fun y0 => ⟨[(6, (.r (.at (.sl 2 0 (List.length y0)))))], [(2, (.gr (.int .i64) 3 y0 true))]⟩
def f70_p3_P (x4 : List Int) (x13 : Int) (x12 : List Int) (r : (List Int)) : Prop := Lp cx f70_M 45 (part Try.f70 3) (f70_p3_H x4 x13 x12) (f70_p3_x r) (f70_p3_s x4 r)
noncomputable def f70_v : ((List Int) × Int) → G := fun (y0, y1) => (.tup [(.at (.lst (.int .i64) y0 false)), (.at (.int .i64 y1))])
noncomputable def f70_k0 : ((List Int) × Int) → List (Nat × Blk) := fun (y0, y1) => []
noncomputable def f70_k (x1 : List Int) : ((List Int) × Int) → List (Nat × Blk) := fun (y0, y1) => []
noncomputable def f70_A (x1 : List Int) : List G := [(GL x1)]
noncomputable def f70_K (x1 : List Int) : List (Nat × Blk) := []
def f70_C (x1 : List Int) (r : (List Int) × Int) : Prop := CallOK cx 70 (f70_A x1) (f70_K x1) [] (f70_v r) (f70_k x1 r)

def f30_M : List Nat := []
noncomputable def f30_v : (Int × Int) → G := fun (y0, y1) => (.tup [(.at (.int .i64 y0)), (.at (.int .i64 y1))])
noncomputable def f30_k0 : (Int × Int) → List (Nat × Blk) := fun (y0, y1) => []
noncomputable def f30_k (x1 : List Int) : (Int × Int) → List (Nat × Blk) := fun (y0, y1) => []
noncomputable def f30_A (x1 : List Int) : List G := [(GL x1)]
noncomputable def f30_K (x1 : List Int) : List (Nat × Blk) := []
def f30_C (x1 : List Int) (r : Int × Int) : Prop := CallOK cx 30 (f30_A x1) (f30_K x1) [] (f30_v r) (f30_k x1 r)

def f32_M : List Nat := []
noncomputable def f32_v : (Bool × Int) → G := fun (y0, y1) => (.tup [(.at (.bool y0)), (.at (.int .i64 y1))])
noncomputable def f32_k0 : (Bool × Int) → List (Nat × Blk) := fun (y0, y1) => []
noncomputable def f32_k (x1 : List Int) : (Bool × Int) → List (Nat × Blk) := fun (y0, y1) => []
noncomputable def f32_A (x1 : List Int) : List G := [(GL x1)]
noncomputable def f32_K (x1 : List Int) : List (Nat × Blk) := []
def f32_C (x1 : List Int) (r : Bool × Int) : Prop := CallOK cx 32 (f32_A x1) (f32_K x1) [] (f32_v r) (f32_k x1 r)

def f28_M : List Nat := []
noncomputable def f28_v : ((List Int) × Int) → G := fun (y0, y1) => (.tup [(.at (.lst (.int .i64) y0 false)), (.at (.int .i64 y1))])
noncomputable def f28_k0 : ((List Int) × Int) → List (Nat × Blk) := fun (y0, y1) => []
noncomputable def f28_k (x1 : List Int) : ((List Int) × Int) → List (Nat × Blk) := fun (y0, y1) => []
noncomputable def f28_A (x1 : List Int) : List G := [(GL x1)]
noncomputable def f28_K (x1 : List Int) : List (Nat × Blk) := []
def f28_C (x1 : List Int) (r : (List Int) × Int) : Prop := CallOK cx 28 (f28_A x1) (f28_K x1) [] (f28_v r) (f28_k x1 r)

def f60_M : List Nat := []
noncomputable def f60_v : ((List Int) × Int) → G := fun (y0, y1) => (.tup [(.at (.lst (.int .i64) y0 false)), (.at (.int .i64 y1))])
noncomputable def f60_k0 : ((List Int) × Int) → List (Nat × Blk) := fun (y0, y1) => []
noncomputable def f60_k (x1 : List Int) (x2 : Int) : ((List Int) × Int) → List (Nat × Blk) := fun (y0, y1) => []
noncomputable def f60_A (x1 : List Int) (x2 : Int) : List G := [(GL x1), (GI x2)]
noncomputable def f60_K (x1 : List Int) (x2 : Int) : List (Nat × Blk) := []
def f60_C (x1 : List Int) (x2 : Int) (r : (List Int) × Int) : Prop := CallOK cx 60 (f60_A x1 x2) (f60_K x1 x2) [] (f60_v r) (f60_k x1 x2 r)

def f61_M : List Nat := []
noncomputable def f61_v : Bool → G := fun y0 => (GB y0)
noncomputable def f61_k0 : Bool → List (Nat × Blk) := fun y0 => []
noncomputable def f61_k (x1 : List Int) (x2 : Int) : Bool → List (Nat × Blk) := fun y0 => []
noncomputable def f61_A (x1 : List Int) (x2 : Int) : List G := [(GL x1), (GI x2)]
noncomputable def f61_K (x1 : List Int) (x2 : Int) : List (Nat × Blk) := []
def f61_C (x1 : List Int) (x2 : Int) (r : Bool) : Prop := CallOK cx 61 (f61_A x1 x2) (f61_K x1 x2) [] (f61_v r) (f61_k x1 x2 r)

def f21_M : List Nat := []
noncomputable def f21_v : (Int × Int × Int) → G := fun (y0, y1, y2) => (.tup [(.at (.int .i64 y0)), (.at (.int .i64 y1)), (.at (.int .i64 y2))])
noncomputable def f21_k0 : (Int × Int × Int) → List (Nat × Blk) := fun (y0, y1, y2) => []
noncomputable def f21_k (x1 : List Int) (x2 : Int) : (Int × Int × Int) → List (Nat × Blk) := fun (y0, y1, y2) => []
noncomputable def f21_A (x1 : List Int) (x2 : Int) : List G := [(GL x1), (GI x2)]
noncomputable def f21_K (x1 : List Int) (x2 : Int) : List (Nat × Blk) := []
def f21_C (x1 : List Int) (x2 : Int) (r : Int × Int × Int) : Prop := CallOK cx 21 (f21_A x1 x2) (f21_K x1 x2) [] (f21_v r) (f21_k x1 x2 r)

def f89_1_M : List Nat := []
noncomputable def f89_1_v : Int → G := fun y0 => (GI y0)
noncomputable def f89_1_k0 : Int → List (Nat × Blk) := fun y0 => []
noncomputable def f89_1_k (x1 : Int) (x2 : List Int) (x3 x4 x5 : Int) : Int → List (Nat × Blk) := fun y0 => [(9, (.var [.cell (.lst (.int .i64) x2 false)])), (11, (.var [.cell (.int .i64 x3)])), (14, (.var [.cell (.int .i64 x4)])), (15, (.var [.cell (.int .i64 x5)]))]
noncomputable def f89_1_A (x1 : Int) (x2 : List Int) (x3 x4 x5 : Int) : List G := [(GI x1), (.r (.at (.ptr 9 0 0))), (.r (.at (.ptr 14 0 0))), (.r (.at (.ptr 11 0 0))), (.r (.at (.ptr 15 0 0)))]
noncomputable def f89_1_K (x1 : Int) (x2 : List Int) (x3 x4 x5 : Int) : List (Nat × Blk) := [(9, (.var [.cell (.lst (.int .i64) x2 false)])), (11, (.var [.cell (.int .i64 x3)])), (14, (.var [.cell (.int .i64 x4)])), (15, (.var [.cell (.int .i64 x5)]))]
def f89_1_C (x1 : Int) (x2 : List Int) (x3 x4 x5 : Int) (r : Int) : Prop := CallOK cx 89 (f89_1_A x1 x2 x3 x4 x5) (f89_1_K x1 x2 x3 x4 x5) [] (f89_1_v r) (f89_1_k x1 x2 x3 x4 x5 r)

def f65_M : List Nat := [7, 8, 9, 10, 11, 12, 13, 14, 15, 16, 17]
noncomputable def f65_p1_H (x3 : Int) (x1 x2 : List Int) (x6 : Int) (x5 : List Int) : GS := ⟨[(1, (GI x3)), (2, (.r (.at (.ptr 7 0 0)))), (6, (.r (.at (.ptr 9 0 0)))), (26, (.r (.at (.int .i64 (((Int.toNat (w64 (x3 + 1))) : Nat) : Int))))), (27, (GI x6))], [(7, (.var [.cell (.lst (.int .i64) x1 false), .cell (.lst (.int .i64) x2 false)])), (8, (.gr (.int .i64) 3 x5 true)), (9, (.var [.cell (.sl 8 0 (Int.toNat (w64 (x3 + 1))))]))]⟩
noncomputable def f65_p1_x : (List Int) → GExit := fun y0 => (.exit 0)
noncomputable def f65_p1_s (x3 : Int) (x1 x2 : List Int) : (List Int) → GS := fun y0 => ⟨[(1, (GI x3)), (2, (.r (.at (.ptr 7 0 0)))), (6, (.r (.at (.ptr 9 0 0))))], [(7, (.var [.cell (.lst (.int .i64) x1 false), .cell (.lst (.int .i64) x2 false)])), (8, (.gr (.int .i64) 3 y0 true)), (9, (.var [.cell (.sl 8 0 (Int.toNat (w64 (x3 + 1))))]))]⟩
def f65_p1_P (x3 : Int) (x1 x2 : List Int) (x6 : Int) (x5 : List Int) (r : (List Int)) : Prop := Lp cx f65_M 178 (part Try.f65 1) (f65_p1_H x3 x1 x2 x6 x5) (f65_p1_x r) (f65_p1_s x3 x1 x2 r)
noncomputable def f65_p17_17_H (x3 : Int) (x1 : List Int) (x134 x137 : Int) (x136 x167 : Int) (x2 x135 : List Int) (x133 : List (List Int)) (x179 x180 : List Int) (x182 : Int) (x183 : List Int) : GS := ⟨[(1, (GI x3)), (2, (.r (.at (.ptr 7 0 0)))), (6, (.r (.at (.ptr 9 0 0)))), (8, (.r (.at (.sl 10 0 (Int.toNat ((List.length x1 : Nat) : Int)))))), (9, (GI x134)), (10, (.r (.at (.ptr 11 0 0)))), (11, (GI x137)), (12, (.r (.at (.sl 12 0 (Int.toNat (w64 (x3 + 1))))))), (13, (.r (.at (.sl 13 0 (Int.toNat (w64 (x3 + 1))))))), (14, (.r (.at (.ptr 14 0 0)))), (15, (.r (.at (.sl 16 0 (List.length x183))))), (16, (.r (.at (.ptr 15 0 0)))), (17, (.r (.at (.app2 (.app2 (.app2 (.app2 (.fn 89) (.ptr 9 0 0)) (.ptr 14 0 0)) (.ptr 11 0 0)) (.ptr 15 0 0))))), (67, (.r (.at (.int .i64 (if (w64 (x3 + 1)) < x136 then (w64 (x3 + 1)) else x136))))), (68, (GI x167))], [(7, (.var [.cell (.lst (.int .i64) x1 false), .cell (.lst (.int .i64) x2 false)])), (9, (.var [.cell (.lst (.int .i64) x135 false)])), (10, (.gr (.list (.int .i64)) 22 x133 true)), (11, (.var [.cell (.int .i64 x136)])), (12, (.gr (.int .i64) 3 x179 true)), (13, (.gr (.int .i64) 3 x180 true)), (14, (.var [.cell (.int .i64 x167)])), (15, (.var [.cell (.int .i64 x182)])), (16, (.gr (.int .i64) 3 x183 true))]⟩
noncomputable def f65_p17_17_x : (List Int) → GExit := fun y0 => (.exit 8)
noncomputable def f65_p17_17_s (x3 : Int) (x1 : List Int) (x134 x137 : Int) (x136 x167 : Int) (x2 x135 : List Int) (x133 : List (List Int)) (x179 x180 : List Int) (x182 : Int) : (List Int) → GS := fun y0 => ⟨[(1, (GI x3)), (2, (.r (.at (.ptr 7 0 0)))), (6, (.r (.at (.ptr 9 0 0)))), (8, (.r (.at (.sl 10 0 (Int.toNat ((List.length x1 : Nat) : Int)))))), (9, (GI x134)), (10, (.r (.at (.ptr 11 0 0)))), (11, (GI x137)), (12, (.r (.at (.sl 12 0 (Int.toNat (w64 (x3 + 1))))))), (13, (.r (.at (.sl 13 0 (Int.toNat (w64 (x3 + 1))))))), (14, (.r (.at (.ptr 14 0 0)))), (15, (.r (.at (.sl 16 0 (List.length y0))))), (16, (.r (.at (.ptr 15 0 0)))), (17, (.r (.at (.app2 (.app2 (.app2 (.app2 (.fn 89) (.ptr 9 0 0)) (.ptr 14 0 0)) (.ptr 11 0 0)) (.ptr 15 0 0))))), (67, (.r (.at (.int .i64 (if (w64 (x3 + 1)) < x136 then (w64 (x3 + 1)) else x136))))), (68, (GI x167))], [(7, (.var [.cell (.lst (.int .i64) x1 false), .cell (.lst (.int .i64) x2 false)])), (9, (.var [.cell (.lst (.int .i64) x135 false)])), (10, (.gr (.list (.int .i64)) 22 x133 true)), (11, (.var [.cell (.int .i64 x136)])), (12, (.gr (.int .i64) 3 x179 true)), (13, (.gr (.int .i64) 3 x180 true)), (14, (.var [.cell (.int .i64 x167)])), (15, (.var [.cell (.int .i64 x182)])), (16, (.gr (.int .i64) 3 y0 true))]⟩
def f65_p17_17_P (x3 : Int) (x1 : List Int) (x134 x137 : Int) (x136 x167 : Int) (x2 x135 : List Int) (x133 : List (List Int)) (x179 x180 : List Int) (x182 : Int) (x183 : List Int) (r : (List Int)) : Prop := Lp cx f65_M 178 (part Try.f65 17) (f65_p17_17_H x3 x1 x134 x137 x136 x167 x2 x135 x133 x179 x180 x182 x183) (f65_p17_17_x r) (f65_p17_17_s x3 x1 x134 x137 x136 x167 x2 x135 x133 x179 x180 x182 r)
noncomputable def f65_p20_17_H (x3 : Int) (x1 : List Int) (x134 x137 : Int) (x187 : List Int) (x182 x136 : Int) (x167 x188 : Int) (x2 x135 : List Int) (x133 : List (List Int)) (x179 x180 : List Int) : GS := ⟨[(1, (GI x3)), (2, (.r (.at (.ptr 7 0 0)))), (6, (.r (.at (.ptr 9 0 0)))), (8, (.r (.at (.sl 10 0 (Int.toNat ((List.length x1 : Nat) : Int)))))), (9, (GI x134)), (10, (.r (.at (.ptr 11 0 0)))), (11, (GI x137)), (12, (.r (.at (.sl 12 0 (Int.toNat (w64 (x3 + 1))))))), (13, (.r (.at (.sl 13 0 (Int.toNat (w64 (x3 + 1))))))), (14, (.r (.at (.ptr 14 0 0)))), (15, (.r (.at (.sl 16 0 (List.length (x187 ++ ([x182] : List Int))))))), (16, (.r (.at (.ptr 15 0 0)))), (17, (.r (.at (.app2 (.app2 (.app2 (.app2 (.fn 89) (.ptr 9 0 0)) (.ptr 14 0 0)) (.ptr 11 0 0)) (.ptr 15 0 0))))), (67, (.r (.at (.int .i64 (if (w64 (x3 + 1)) < x136 then (w64 (x3 + 1)) else x136))))), (68, (GI x167)), (113, (.r (.at (.bool (decide (x188 < (w64 (x182 - x137))))))))], [(7, (.var [.cell (.lst (.int .i64) x1 false), .cell (.lst (.int .i64) x2 false)])), (9, (.var [.cell (.lst (.int .i64) x135 false)])), (10, (.gr (.list (.int .i64)) 22 x133 true)), (11, (.var [.cell (.int .i64 x136)])), (12, (.gr (.int .i64) 3 x179 true)), (13, (.gr (.int .i64) 3 x180 true)), (14, (.var [.cell (.int .i64 x167)])), (15, (.var [.cell (.int .i64 x182)])), (16, (.gr (.int .i64) 3 ((x187 ++ ([x182] : List Int)) : List Int) true))]⟩
noncomputable def f65_p20_17_x : (List Int) → GExit := fun y0 => .normal
noncomputable def f65_p20_17_s (x3 : Int) (x1 : List Int) (x134 x137 : Int) (x187 : List Int) (x182 x136 : Int) (x167 x188 : Int) (x2 x135 : List Int) (x133 : List (List Int)) (x179 x180 : List Int) : (List Int) → GS := fun y0 => ⟨[(1, (GI x3)), (2, (.r (.at (.ptr 7 0 0)))), (6, (.r (.at (.ptr 9 0 0)))), (8, (.r (.at (.sl 10 0 (Int.toNat ((List.length x1 : Nat) : Int)))))), (9, (GI x134)), (10, (.r (.at (.ptr 11 0 0)))), (11, (GI x137)), (12, (.r (.at (.sl 12 0 (Int.toNat (w64 (x3 + 1))))))), (13, (.r (.at (.sl 13 0 (Int.toNat (w64 (x3 + 1))))))), (14, (.r (.at (.ptr 14 0 0)))), (15, (.r (.at (.sl 16 0 (List.length y0))))), (16, (.r (.at (.ptr 15 0 0)))), (17, (.r (.at (.app2 (.app2 (.app2 (.app2 (.fn 89) (.ptr 9 0 0)) (.ptr 14 0 0)) (.ptr 11 0 0)) (.ptr 15 0 0))))), (67, (.r (.at (.int .i64 (if (w64 (x3 + 1)) < x136 then (w64 (x3 + 1)) else x136))))), (68, (GI x167))], [(7, (.var [.cell (.lst (.int .i64) x1 false), .cell (.lst (.int .i64) x2 false)])), (9, (.var [.cell (.lst (.int .i64) x135 false)])), (10, (.gr (.list (.int .i64)) 22 x133 true)), (11, (.var [.cell (.int .i64 x136)])), (12, (.gr (.int .i64) 3 x179 true)), (13, (.gr (.int .i64) 3 x180 true)), (14, (.var [.cell (.int .i64 x167)])), (15, (.var [.cell (.int .i64 x182)])), (16, (.gr (.int .i64) 3 y0 true))]⟩
def f65_p20_17_P (x3 : Int) (x1 : List Int) (x134 x137 : Int) (x187 : List Int) (x182 x136 : Int) (x167 x188 : Int) (x2 x135 : List Int) (x133 : List (List Int)) (x179 x180 : List Int) (r : (List Int)) : Prop := Ex cx f65_M 178 (part Try.f65 20) (f65_p20_17_H x3 x1 x134 x137 x187 x182 x136 x167 x188 x2 x135 x133 x179 x180) (f65_p20_17_x r) (f65_p20_17_s x3 x1 x134 x137 x187 x182 x136 x167 x188 x2 x135 x133 x179 x180 r)
noncomputable def f65_p13_5_H (x3 : Int) (x1 : List Int) (x134 x137 : Int) (x136 x167 : Int) (x2 x135 : List Int) (x133 : List (List Int)) (x179 x180 : List Int) (x182 : Int) (x181 : List Int) : GS := ⟨[(1, (GI x3)), (2, (.r (.at (.ptr 7 0 0)))), (6, (.r (.at (.ptr 9 0 0)))), (8, (.r (.at (.sl 10 0 (Int.toNat ((List.length x1 : Nat) : Int)))))), (9, (GI x134)), (10, (.r (.at (.ptr 11 0 0)))), (11, (GI x137)), (12, (.r (.at (.sl 12 0 (Int.toNat (w64 (x3 + 1))))))), (13, (.r (.at (.sl 13 0 (Int.toNat (w64 (x3 + 1))))))), (14, (.r (.at (.ptr 14 0 0)))), (15, (.r (.at (.sl 16 0 (List.length x181))))), (16, (.r (.at (.ptr 15 0 0)))), (67, (.r (.at (.int .i64 (if (w64 (x3 + 1)) < x136 then (w64 (x3 + 1)) else x136))))), (68, (GI x167))], [(7, (.var [.cell (.lst (.int .i64) x1 false), .cell (.lst (.int .i64) x2 false)])), (9, (.var [.cell (.lst (.int .i64) x135 false)])), (10, (.gr (.list (.int .i64)) 22 x133 true)), (11, (.var [.cell (.int .i64 x136)])), (12, (.gr (.int .i64) 3 x179 true)), (13, (.gr (.int .i64) 3 x180 true)), (14, (.var [.cell (.int .i64 x167)])), (15, (.var [.cell (.int .i64 x182)])), (16, (.gr (.int .i64) 3 x181 true))]⟩
noncomputable def f65_p13_5_x : ((List Int) × (List Int)) → GExit := fun (y0, y1) => (.exit 6)
noncomputable def f65_p13_5_s (x3 : Int) (x1 : List Int) (x134 x137 : Int) (x136 x167 : Int) (x2 x135 : List Int) (x133 : List (List Int)) : ((List Int) × (List Int)) → GS := fun (y0, y1) => ⟨[(1, (GI x3)), (2, (.r (.at (.ptr 7 0 0)))), (6, (.r (.at (.ptr 9 0 0)))), (8, (.r (.at (.sl 10 0 (Int.toNat ((List.length x1 : Nat) : Int)))))), (9, (GI x134)), (10, (.r (.at (.ptr 11 0 0)))), (11, (GI x137)), (12, (.r (.at (.sl 12 0 (Int.toNat (w64 (x3 + 1))))))), (13, (.r (.at (.sl 13 0 (Int.toNat (w64 (x3 + 1))))))), (67, (.r (.at (.int .i64 (if (w64 (x3 + 1)) < x136 then (w64 (x3 + 1)) else x136))))), (68, (GI x167))], [(7, (.var [.cell (.lst (.int .i64) x1 false), .cell (.lst (.int .i64) x2 false)])), (9, (.var [.cell (.lst (.int .i64) x135 false)])), (10, (.gr (.list (.int .i64)) 22 x133 true)), (11, (.var [.cell (.int .i64 x136)])), (12, (.gr (.int .i64) 3 y0 true)), (13, (.gr (.int .i64) 3 y1 true))]⟩
def f65_p13_5_P (x3 : Int) (x1 : List Int) (x134 x137 : Int) (x136 x167 : Int) (x2 x135 : List Int) (x133 : List (List Int)) (x179 x180 : List Int) (x182 : Int) (x181 : List Int) (r : (List Int) × (List Int)) : Prop := Lp cx f65_M 178 (part Try.f65 13) (f65_p13_5_H x3 x1 x134 x137 x136 x167 x2 x135 x133 x179 x180 x182 x181) (f65_p13_5_x r) (f65_p13_5_s x3 x1 x134 x137 x136 x167 x2 x135 x133 r)
noncomputable def f65_p9_2_H (x3 : Int) (x1 : List Int) (x134 x137 x136 : Int) (x2 x135 : List Int) (x133 : List (List Int)) (x167 : Int) (x165 x166 : List Int) : GS := ⟨[(1, (GI x3)), (2, (.r (.at (.ptr 7 0 0)))), (6, (.r (.at (.ptr 9 0 0)))), (8, (.r (.at (.sl 10 0 (Int.toNat ((List.length x1 : Nat) : Int)))))), (9, (GI x134)), (10, (.r (.at (.ptr 11 0 0)))), (11, (GI x137)), (12, (.r (.at (.sl 12 0 (Int.toNat (w64 (x3 + 1))))))), (13, (.r (.at (.sl 13 0 (Int.toNat (w64 (x3 + 1))))))), (67, (.r (.at (.int .i64 (if (w64 (x3 + 1)) < x136 then (w64 (x3 + 1)) else x136))))), (68, (GI x167))], [(7, (.var [.cell (.lst (.int .i64) x1 false), .cell (.lst (.int .i64) x2 false)])), (9, (.var [.cell (.lst (.int .i64) x135 false)])), (10, (.gr (.list (.int .i64)) 22 x133 true)), (11, (.var [.cell (.int .i64 x136)])), (12, (.gr (.int .i64) 3 x165 true)), (13, (.gr (.int .i64) 3 x166 true))]⟩
noncomputable def f65_p9_2_x : ((List Int) × (List Int)) → GExit := fun (y0, y1) => (.exit 4)
noncomputable def f65_p9_2_s (x3 : Int) (x1 : List Int) (x134 x137 x136 : Int) (x2 x135 : List Int) (x133 : List (List Int)) : ((List Int) × (List Int)) → GS := fun (y0, y1) => ⟨[(1, (GI x3)), (2, (.r (.at (.ptr 7 0 0)))), (6, (.r (.at (.ptr 9 0 0)))), (8, (.r (.at (.sl 10 0 (Int.toNat ((List.length x1 : Nat) : Int)))))), (9, (GI x134)), (12, (.r (.at (.sl 12 0 (Int.toNat (w64 (x3 + 1))))))), (13, (.r (.at (.sl 13 0 (Int.toNat (w64 (x3 + 1)))))))], [(7, (.var [.cell (.lst (.int .i64) x1 false), .cell (.lst (.int .i64) x2 false)])), (9, (.var [.cell (.lst (.int .i64) x135 false)])), (10, (.gr (.list (.int .i64)) 22 x133 true)), (12, (.gr (.int .i64) 3 y0 true)), (13, (.gr (.int .i64) 3 y1 true))]⟩
def f65_p9_2_P (x3 : Int) (x1 : List Int) (x134 x137 x136 : Int) (x2 x135 : List Int) (x133 : List (List Int)) (x167 : Int) (x165 x166 : List Int) (r : (List Int) × (List Int)) : Prop := Lp cx f65_M 178 (part Try.f65 9) (f65_p9_2_H x3 x1 x134 x137 x136 x2 x135 x133 x167 x165 x166) (f65_p9_2_x r) (f65_p9_2_s x3 x1 x134 x137 x136 x2 x135 x133 r)
noncomputable def f65_p5_H (x3 : Int) (x1 x2 : List Int) (x134 : Int) (x135 : List Int) (x133 : List (List Int)) : GS := ⟨[(1, (GI x3)), (2, (.r (.at (.ptr 7 0 0)))), (6, (.r (.at (.ptr 9 0 0)))), (8, (.r (.at (.sl 10 0 (Int.toNat ((List.length x1 : Nat) : Int)))))), (9, (GI x134))], [(7, (.var [.cell (.lst (.int .i64) x1 false), .cell (.lst (.int .i64) x2 false)])), (9, (.var [.cell (.lst (.int .i64) x135 false)])), (10, (.gr (.list (.int .i64)) 22 x133 true))]⟩
noncomputable def f65_p5_x : ((List Int) × (List (List Int))) → GExit := fun (y0, y1) => (.exit 2)
noncomputable def f65_p5_s (x3 : Int) (x1 x2 : List Int) : ((List Int) × (List (List Int))) → GS := fun (y0, y1) => ⟨[(1, (GI x3)), (2, (.r (.at (.ptr 7 0 0)))), (6, (.r (.at (.ptr 9 0 0)))), (8, (.r (.at (.sl 10 0 (Int.toNat ((List.length x1 : Nat) : Int))))))], [(7, (.var [.cell (.lst (.int .i64) x1 false), .cell (.lst (.int .i64) x2 false)])), (9, (.var [.cell (.lst (.int .i64) y0 false)])), (10, (.gr (.list (.int .i64)) 22 y1 true))]⟩
def f65_p5_P (x3 : Int) (x1 x2 : List Int) (x134 : Int) (x135 : List Int) (x133 : List (List Int)) (r : (List Int) × (List (List Int))) : Prop := Lp cx f65_M 178 (part Try.f65 5) (f65_p5_H x3 x1 x2 x134 x135 x133) (f65_p5_x r) (f65_p5_s x3 x1 x2 r)
noncomputable def f65_p23_H (x1 x2 : List Int) (x197 : List (List Int)) (x205 x206 : Int) (x204 : List Int) : GS := ⟨[(1, (GI x205)), (2, (.r (.at (.ptr 7 0 0)))), (19, (.r (.at (.sl 17 0 (List.length x204))))), (150, (.r (.at (.sl 10 0 (Int.toNat ((List.length x1 : Nat) : Int)))))), (151, (.r (.at (.int .i64 (((Int.toNat ((List.length x1 : Nat) : Int)) : Nat) : Int))))), (152, (GI x206))], [(7, (.var [.cell (.lst (.int .i64) x1 false), .cell (.lst (.int .i64) x2 false)])), (10, (.gr (.list (.int .i64)) 22 x197 true)), (17, (.gr (.int .i64) 3 x204 true))]⟩
noncomputable def f65_p23_x : (List Int) → GExit := fun y0 => (.exit 10)
noncomputable def f65_p23_s (x1 x2 : List Int) (x197 : List (List Int)) : (List Int) → GS := fun y0 => ⟨[(19, (.r (.at (.sl 17 0 (List.length y0)))))], [(17, (.gr (.int .i64) 3 y0 true))]⟩
def f65_p23_P (x1 x2 : List Int) (x197 : List (List Int)) (x205 x206 : Int) (x204 : List Int) (r : (List Int)) : Prop := Lp cx f65_M 178 (part Try.f65 23) (f65_p23_H x1 x2 x197 x205 x206 x204) (f65_p23_x r) (f65_p23_s x1 x2 x197 r)
noncomputable def f65_v : ((List Int) × Int) → G := fun (y0, y1) => (.tup [(.at (.lst (.int .i64) y0 false)), (.at (.int .i64 y1))])
noncomputable def f65_k0 : ((List Int) × Int) → List (Nat × Blk) := fun (y0, y1) => []
noncomputable def f65_k (x1 x2 : List Int) (x3 : Int) : ((List Int) × Int) → List (Nat × Blk) := fun (y0, y1) => []
noncomputable def f65_A (x1 x2 : List Int) (x3 : Int) : List G := [(.r (.agg [.cell (.lst (.int .i64) x1 false), .cell (.lst (.int .i64) x2 false)])), (GI x3)]
noncomputable def f65_K (x1 x2 : List Int) (x3 : Int) : List (Nat × Blk) := []
def f65_C (x1 x2 : List Int) (x3 : Int) (r : (List Int) × Int) : Prop := CallOK cx 65 (f65_A x1 x2 x3) (f65_K x1 x2 x3) [] (f65_v r) (f65_k x1 x2 x3 r)

def f19_M : List Nat := [5, 6]
noncomputable def f19_p2_H (x2 : Int) (x1 : List Int) (x11 : Int) (x12 x10 : List Int) : GS := ⟨[(1, (GI x2)), (8, (.r (.at (.ptr 5 0 0)))), (22, (GL x1)), (23, (.r (.at (.int .i64 ((List.length x1 : Nat) : Int))))), (24, (GI x11))], [(5, (.var [.cell (.lst (.int .i64) x12 false), .cell (.sl 6 0 (List.length x10))])), (6, (.gr (.int .i64) 3 x10 true))]⟩
noncomputable def f19_p2_x : ((List Int) × (List Int)) → GExit := fun (y0, y1) => (.exit 0)
noncomputable def f19_p2_s (x2 : Int) (x1 : List Int) : ((List Int) × (List Int)) → GS := fun (y0, y1) => ⟨[(1, (GI x2)), (8, (.r (.at (.ptr 5 0 0))))], [(5, (.var [.cell (.lst (.int .i64) y0 false), .cell (.sl 6 0 (List.length y1))])), (6, (.gr (.int .i64) 3 y1 true))]⟩
def f19_p2_P (x2 : Int) (x1 : List Int) (x11 : Int) (x12 x10 : List Int) (r : (List Int) × (List Int)) : Prop := Lp cx f19_M 42 (part Try.f19 2) (f19_p2_H x2 x1 x11 x12 x10) (f19_p2_x r) (f19_p2_s x2 x1 r)
noncomputable def f19_v : ((List Int) × Int) → G := fun (y0, y1) => (.tup [(.at (.lst (.int .i64) y0 false)), (.at (.int .i64 y1))])
noncomputable def f19_k0 : ((List Int) × Int) → List (Nat × Blk) := fun (y0, y1) => []
noncomputable def f19_k (x1 : List Int) (x2 : Int) : ((List Int) × Int) → List (Nat × Blk) := fun (y0, y1) => []
noncomputable def f19_A (x1 : List Int) (x2 : Int) : List G := [(GL x1), (GI x2)]
noncomputable def f19_K (x1 : List Int) (x2 : Int) : List (Nat × Blk) := []
def f19_C (x1 : List Int) (x2 : Int) (r : (List Int) × Int) : Prop := CallOK cx 19 (f19_A x1 x2) (f19_K x1 x2) [] (f19_v r) (f19_k x1 x2 r)

def f92_M : List Nat := []
noncomputable def f92_p0_H (x1 : List Int) : GS := ⟨[(0, (GL x1)), (7, (.r (.at (.bool (decide (((List.length x1 : Nat) : Int) < 1))))))], []⟩
noncomputable def f92_p0_x : Unit → GExit := fun _ => .normal
noncomputable def f92_p0_s (x1 : List Int) : Unit → GS := fun _ => ⟨[(0, (GL x1))], []⟩
def f92_p0_P (x1 : List Int) (r : Unit) : Prop := Ex cx f92_M 25 (part Try.f92 0) (f92_p0_H x1) (f92_p0_x r) (f92_p0_s x1 r)
noncomputable def f92_p2_H (x1 : List Int) (x3 x4 : Int) : GS := ⟨[(0, (GL x1)), (3, (GI x3)), (4, (GI x4))], []⟩
noncomputable def f92_p2_x : Int → GExit := fun y0 => (.exit 0)
noncomputable def f92_p2_s (x1 : List Int) : Int → GS := fun y0 => ⟨[(3, (GI y0))], []⟩
def f92_p2_P (x1 : List Int) (x3 x4 : Int) (r : Int) : Prop := Lp cx f92_M 25 (part Try.f92 2) (f92_p2_H x1 x3 x4) (f92_p2_x r) (f92_p2_s x1 r)
noncomputable def f92_v : Int → G := fun y0 => (GI y0)
noncomputable def f92_k0 : Int → List (Nat × Blk) := fun y0 => []
noncomputable def f92_k (x1 : List Int) : Int → List (Nat × Blk) := fun y0 => []
noncomputable def f92_A (x1 : List Int) : List G := [(GL x1)]
noncomputable def f92_K (x1 : List Int) : List (Nat × Blk) := []
def f92_C (x1 : List Int) (r : Int) : Prop := CallOK cx 92 (f92_A x1) (f92_K x1) [] (f92_v r) (f92_k x1 r)

def f85_M : List Nat := []
noncomputable def f85_p0_H (x1 : List Int) : GS := ⟨[(0, (GL x1)), (7, (.r (.at (.bool (decide (((List.length x1 : Nat) : Int) < 1))))))], []⟩
noncomputable def f85_p0_x : Unit → GExit := fun _ => .normal
noncomputable def f85_p0_s (x1 : List Int) : Unit → GS := fun _ => ⟨[(0, (GL x1))], []⟩
def f85_p0_P (x1 : List Int) (r : Unit) : Prop := Ex cx f85_M 25 (part Try.f85 0) (f85_p0_H x1) (f85_p0_x r) (f85_p0_s x1 r)
noncomputable def f85_p2_H (x1 : List Int) (x3 x4 : Int) : GS := ⟨[(0, (GL x1)), (3, (GI x3)), (4, (GI x4))], []⟩
noncomputable def f85_p2_x : Int → GExit := fun y0 => (.exit 0)
noncomputable def f85_p2_s (x1 : List Int) : Int → GS := fun y0 => ⟨[(3, (GI y0))], []⟩
def f85_p2_P (x1 : List Int) (x3 x4 : Int) (r : Int) : Prop := Lp cx f85_M 25 (part Try.f85 2) (f85_p2_H x1 x3 x4) (f85_p2_x r) (f85_p2_s x1 r)
noncomputable def f85_v : Int → G := fun y0 => (GI y0)
noncomputable def f85_k0 : Int → List (Nat × Blk) := fun y0 => []
noncomputable def f85_k (x1 : List Int) : Int → List (Nat × Blk) := fun y0 => []
noncomputable def f85_A (x1 : List Int) : List G := [(GL x1)]
noncomputable def f85_K (x1 : List Int) : List (Nat × Blk) := []
def f85_C (x1 : List Int) (r : Int) : Prop := CallOK cx 85 (f85_A x1) (f85_K x1) [] (f85_v r) (f85_k x1 r)

def f77_M : List Nat := [19]
noncomputable def f77_v : ((List Int) × (List Int) × Int) → G := fun (y0, y1, y2) => (.tup [(.agg [.cell (.lst (.int .i64) y0 false), .cell (.lst (.int .i64) y1 false)]), (.at (.int .i64 y2))])
noncomputable def f77_k0 : ((List Int) × (List Int) × Int) → List (Nat × Blk) := fun (y0, y1, y2) => []
noncomputable def f77_k (x1 x2 : List Int) : ((List Int) × (List Int) × Int) → List (Nat × Blk) := fun (y0, y1, y2) => []
noncomputable def f77_A (x1 x2 : List Int) : List G := [(GL x1), (GL x2)]
noncomputable def f77_K (x1 x2 : List Int) : List (Nat × Blk) := []
def f77_C (x1 x2 : List Int) (r : (List Int) × (List Int) × Int) : Prop := CallOK cx 77 (f77_A x1 x2) (f77_K x1 x2) [] (f77_v r) (f77_k x1 x2 r)

def f73_M : List Nat := [18, 20]
noncomputable def f73_p0_H (x6 : Int) (x7 : Bool) (x4 x5 : List Int) : GS := ⟨[(6, (.r (.at (.ptr 18 0 0)))), (8, (.r (.at (.ptr 20 0 0)))), (9, (GI x6)), (22, (.r (.at (.bool (!x7)))))], [(18, (.var [.cell .nils, .cell .nils])), (20, (.var [.cell (.lst (.int .i64) x4 false), .cell (.lst (.int .i64) x5 false)]))]⟩
noncomputable def f73_p0_x : Int → GExit := fun y0 => .normal
noncomputable def f73_p0_s (x6 : Int) (x7 : Bool) (x4 x5 : List Int) : Int → GS := fun y0 => ⟨[(6, (.r (.at (.ptr 18 0 0)))), (8, (.r (.at (.ptr 20 0 0)))), (9, (GI y0))], [(18, (.var [.cell .nils, .cell .nils])), (20, (.var [.cell (.lst (.int .i64) x4 false), .cell (.lst (.int .i64) x5 false)]))]⟩
def f73_p0_P (x6 : Int) (x7 : Bool) (x4 x5 : List Int) (r : Int) : Prop := Ex cx f73_M 25 (part Try.f73 0) (f73_p0_H x6 x7 x4 x5) (f73_p0_x r) (f73_p0_s x6 x7 x4 x5 r)
noncomputable def f73_v : ((List Int) × (List Int) × Int) → G := fun (y0, y1, y2) => (.tup [(.agg [.cell (.lst (.int .i64) y0 false), .cell (.lst (.int .i64) y1 false)]), (.at (.int .i64 y2))])
noncomputable def f73_k0 : ((List Int) × (List Int) × Int) → List (Nat × Blk) := fun (y0, y1, y2) => []
noncomputable def f73_k (x1 x2 : List Int) (x3 : Int) : ((List Int) × (List Int) × Int) → List (Nat × Blk) := fun (y0, y1, y2) => []
noncomputable def f73_A (x1 x2 : List Int) (x3 : Int) : List G := [(GL x1), (GL x2), (GI x3)]
noncomputable def f73_K (x1 x2 : List Int) (x3 : Int) : List (Nat × Blk) := []
def f73_C (x1 x2 : List Int) (x3 : Int) (r : (List Int) × (List Int) × Int) : Prop := CallOK cx 73 (f73_A x1 x2 x3) (f73_K x1 x2 x3) [] (f73_v r) (f73_k x1 x2 x3 r)

def f51_M : List Nat := [21]
noncomputable def f51_v : ((List Int) × Int) → G := fun (y0, y1) => (.tup [(.at (.lst (.int .i64) y0 false)), (.at (.int .i64 y1))])
noncomputable def f51_k0 : ((List Int) × Int) → List (Nat × Blk) := fun (y0, y1) => []
noncomputable def f51_k (x1 x2 : List Int) (x3 : Int) : ((List Int) × Int) → List (Nat × Blk) := fun (y0, y1) => []
noncomputable def f51_A (x1 x2 : List Int) (x3 : Int) : List G := [(GL x1), (GL x2), (GI x3)]
noncomputable def f51_K (x1 x2 : List Int) (x3 : Int) : List (Nat × Blk) := []
def f51_C (x1 x2 : List Int) (x3 : Int) (r : (List Int) × Int) : Prop := CallOK cx 51 (f51_A x1 x2 x3) (f51_K x1 x2 x3) [] (f51_v r) (f51_k x1 x2 x3 r)

def f47_M : List Nat := [2]
noncomputable def f47_v : (List Int) → G := fun y0 => (.r (.at (.sl 2 0 (List.length y0))))
noncomputable def f47_k0 : (List Int) → List (Nat × Blk) := fun y0 => [(2, (.gr (.int .i64) 3 y0 true))]
noncomputable def f47_k (x1 : Option (List Int)) : (List Int) → List (Nat × Blk) := fun y0 => [(2, (.gr (.int .i64) 3 y0 true))]
noncomputable def f47_A (x1 : Option (List Int)) : List G := [(.r (.at (.olst (.int .i64) x1)))]
noncomputable def f47_K (x1 : Option (List Int)) : List (Nat × Blk) := []
def f47_C (x1 : Option (List Int)) (r : (List Int)) : Prop := CallOK cx 47 (f47_A x1) (f47_K x1) [] (f47_v r) (f47_k x1 r)

noncomputable def f47m_v : (List Int) → G := f47_v
noncomputable def f47m_k0 : (List Int) → List (Nat × Blk) := f47_k0
noncomputable def f47m_k (x1 : List Int) : (List Int) → List (Nat × Blk) := f47_k (some x1)
noncomputable def f47m_A (x1 : List Int) : List G := [(GL x1)]
noncomputable def f47m_K (x1 : List Int) : List (Nat × Blk) := []
def f47m_C (x1 : List Int) (r : (List Int)) : Prop := CallOK cx 47 (f47m_A x1) (f47m_K x1) [] (f47m_v r) (f47m_k x1 r)

def f74_M : List Nat := [2, 27, 28]
noncomputable def f74_p8_5_H (x33 : List Int) (x34 x35 : Int) (x36 : List Int) (x53 x56 : Int) (x1 x52 : List Int) (x54 x55 : Int) (x2 : List Int) : GS := ⟨[(1, (.r (.at (.ptr 27 0 0)))), (3, (GL x33)), (4, (GI x34)), (5, (GI x35)), (6, (.r (.at (.sl 2 0 (List.length x36))))), (7, (GI x53)), (8, (.r (.at (.int .i64 (w64 (x53 - (w64 ((w64 (x56 + 1)) * x35)))))))), (13, (GL x1)), (14, (.r (.at (.int .i64 ((List.length x1 : Nat) : Int))))), (15, (GI x34)), (50, (.r (.at (.bool (decide ((w64 (x53 - (w64 ((w64 (x56 + 1)) * x35)))) ≥ 0))))))], [(2, (.gr (.int .i64) 3 ((List.set x52 (0 + (Int.toNat x53)) (w64 (x54 + x55))) : List Int) true)), (27, (.var [.cell (.lst (.int .i64) x1 false), .cell (.lst (.int .i64) x2 false)]))]⟩
noncomputable def f74_p8_5_x : (List Int) → GExit := fun y0 => .normal
noncomputable def f74_p8_5_s (x33 : List Int) (x34 x35 : Int) (x36 : List Int) (x53 x56 : Int) (x1 x52 : List Int) (x54 x55 : Int) (x2 : List Int) : (List Int) → GS := fun y0 => ⟨[(1, (.r (.at (.ptr 27 0 0)))), (3, (GL x33)), (4, (GI x34)), (5, (GI x35)), (6, (.r (.at (.sl 2 0 (List.length x36))))), (7, (GI x53)), (13, (GL x1)), (14, (.r (.at (.int .i64 ((List.length x1 : Nat) : Int))))), (15, (GI x34))], [(2, (.gr (.int .i64) 3 y0 true)), (27, (.var [.cell (.lst (.int .i64) x1 false), .cell (.lst (.int .i64) x2 false)]))]⟩
def f74_p8_5_P (x33 : List Int) (x34 x35 : Int) (x36 : List Int) (x53 x56 : Int) (x1 x52 : List Int) (x54 x55 : Int) (x2 : List Int) (r : (List Int)) : Prop := Ex cx f74_M 64 (part Try.f74 8) (f74_p8_5_H x33 x34 x35 x36 x53 x56 x1 x52 x54 x55 x2) (f74_p8_5_x r) (f74_p8_5_s x33 x34 x35 x36 x53 x56 x1 x52 x54 x55 x2 r)
noncomputable def f74_p5_1_H (x33 : List Int) (x34 x35 : Int) (x36 x1 x2 : List Int) (x53 : Int) (x52 : List Int) : GS := ⟨[(1, (.r (.at (.ptr 27 0 0)))), (3, (GL x33)), (4, (GI x34)), (5, (GI x35)), (6, (.r (.at (.sl 2 0 (List.length x36))))), (7, (GI x53)), (13, (GL x1)), (14, (.r (.at (.int .i64 ((List.length x1 : Nat) : Int))))), (15, (GI x34))], [(2, (.gr (.int .i64) 3 x52 true)), (27, (.var [.cell (.lst (.int .i64) x1 false), .cell (.lst (.int .i64) x2 false)]))]⟩
noncomputable def f74_p5_1_x : (List Int) → GExit := fun y0 => (.exit 2)
noncomputable def f74_p5_1_s (x33 : List Int) (x34 x35 : Int) (x36 x1 x2 : List Int) : (List Int) → GS := fun y0 => ⟨[(1, (.r (.at (.ptr 27 0 0)))), (6, (.r (.at (.sl 2 0 (List.length x36))))), (13, (GL x1)), (14, (.r (.at (.int .i64 ((List.length x1 : Nat) : Int))))), (15, (GI x34))], [(2, (.gr (.int .i64) 3 y0 true)), (27, (.var [.cell (.lst (.int .i64) x1 false), .cell (.lst (.int .i64) x2 false)]))]⟩
def f74_p5_1_P (x33 : List Int) (x34 x35 : Int) (x36 x1 x2 : List Int) (x53 : Int) (x52 : List Int) (r : (List Int)) : Prop := Lp cx f74_M 64 (part Try.f74 5) (f74_p5_1_H x33 x34 x35 x36 x1 x2 x53 x52) (f74_p5_1_x r) (f74_p5_1_s x33 x34 x35 x36 x1 x2 r)
noncomputable def f74_p1_H (x1 x2 x33 : List Int) (x34 : Int) : GS := ⟨[(1, (.r (.at (.ptr 27 0 0)))), (3, (GL x33)), (13, (GL x1)), (14, (.r (.at (.int .i64 ((List.length x1 : Nat) : Int))))), (15, (GI x34))], [(27, (.var [.cell (.lst (.int .i64) x1 false), .cell (.lst (.int .i64) x2 false)]))]⟩
noncomputable def f74_p1_x : (List Int) → GExit := fun y0 => (.exit 0)
noncomputable def f74_p1_s (x1 x2 : List Int) : (List Int) → GS := fun y0 => ⟨[(3, (GL y0))], []⟩
def f74_p1_P (x1 x2 x33 : List Int) (x34 : Int) (r : (List Int)) : Prop := Lp cx f74_M 64 (part Try.f74 1) (f74_p1_H x1 x2 x33 x34) (f74_p1_x r) (f74_p1_s x1 x2 r)
noncomputable def f74_v : (List Int) → G := fun y0 => (GL y0)
noncomputable def f74_k0 : (List Int) → List (Nat × Blk) := fun y0 => []
noncomputable def f74_k (x1 x2 : List Int) : (List Int) → List (Nat × Blk) := fun y0 => []
noncomputable def f74_A (x1 x2 : List Int) : List G := [(.r (.agg [.cell (.lst (.int .i64) x1 false), .cell (.lst (.int .i64) x2 false)]))]
noncomputable def f74_K (x1 x2 : List Int) : List (Nat × Blk) := []
def f74_C (x1 x2 : List Int) (r : (List Int)) : Prop := CallOK cx 74 (f74_A x1 x2) (f74_K x1 x2) [] (f74_v r) (f74_k x1 x2 r)

def f80_M : List Nat := []
noncomputable def f80_p0_H (x1 x2 : Int) (x3 x4 : Int) : GS := ⟨[(0, (GI x1)), (2, (.r (.at (.ptr 25 0 0)))), (3, (.r (.at (.ptr 24 0 0)))), (8, (.r (.at (.bool (decide (x1 ≥ x2))))))], [(22, (.var [.cell (.int .i64 x2)])), (24, (.var [.cell (.int .i64 x3)])), (25, (.var [.cell (.int .i64 x4)]))]⟩
noncomputable def f80_p0_x : (Int × Int) → GExit := fun (y0, y1) => .normal
noncomputable def f80_p0_s (x1 x2 : Int) (x3 x4 : Int) : (Int × Int) → GS := fun (y0, y1) => ⟨[(3, (.r (.at (.ptr 24 0 0))))], [(22, (.var [.cell (.int .i64 x2)])), (24, (.var [.cell (.int .i64 y0)])), (25, (.var [.cell (.int .i64 y1)]))]⟩
def f80_p0_P (x1 x2 : Int) (x3 x4 : Int) (r : Int × Int) : Prop := Ex cx f80_M 12 (part Try.f80 0) (f80_p0_H x1 x2 x3 x4) (f80_p0_x r) (f80_p0_s x1 x2 x3 x4 r)
noncomputable def f80_v : (Bool × Int × Int) → G := fun (y0, y1, y2) => (GB y0)
noncomputable def f80_k0 : (Bool × Int × Int) → List (Nat × Blk) := fun (y0, y1, y2) => [(24, (.var [.cell (.int .i64 y1)])), (25, (.var [.cell (.int .i64 y2)]))]
noncomputable def f80_k (x1 x2 : Int) (x3 x4 : Int) : (Bool × Int × Int) → List (Nat × Blk) := fun (y0, y1, y2) => [(24, (.var [.cell (.int .i64 y1)])), (25, (.var [.cell (.int .i64 y2)])), (22, (.var [.cell (.int .i64 x2)]))]
noncomputable def f80_A (x1 x2 : Int) (x3 x4 : Int) : List G := [(GI x1), (.r (.at (.ptr 22 0 0))), (.r (.at (.ptr 25 0 0))), (.r (.at (.ptr 24 0 0)))]
noncomputable def f80_K (x1 x2 : Int) (x3 x4 : Int) : List (Nat × Blk) := [(22, (.var [.cell (.int .i64 x2)])), (24, (.var [.cell (.int .i64 x3)])), (25, (.var [.cell (.int .i64 x4)]))]
def f80_C (x1 x2 : Int) (x3 x4 : Int) (r : Bool × Int × Int) : Prop := CallOK cx 80 (f80_A x1 x2 x3 x4) (f80_K x1 x2 x3 x4) [] (f80_v r) (f80_k x1 x2 x3 x4 r)

def f78_M : List Nat := [26]
noncomputable def f78_p1_H (x6 : List Int) (x3 x12 : Int) (x13 x14 : Int) : GS := ⟨[(1, (.r (.at (.app2 (.app2 (.app2 (.fn 80) (.ptr 22 0 0)) (.ptr 25 0 0)) (.ptr 24 0 0))))), (7, (GL x6)), (8, (.r (.at (.int .i64 ((List.length x6 : Nat) : Int))))), (9, (GI x12))], [(22, (.var [.cell (.int .i64 x3)])), (24, (.var [.cell (.int .i64 x13)])), (25, (.var [.cell (.int .i64 x14)]))]⟩
noncomputable def f78_p1_x : f78_p1_R → GExit := fun
  | .c0 y0 y1 => .ret
  | .c1 y0 y1 => (.exit 0)
noncomputable def f78_p1_s (x6 : List Int) (x3 : Int) : f78_p1_R → GS := fun
  | .c0 y0 y1 => ⟨[], [(22, (.var [.cell (.int .i64 x3)])), (24, (.var [.cell (.int .i64 y0)])), (25, (.var [.cell (.int .i64 y1)]))]⟩
  | .c1 y0 y1 => ⟨[], [(22, (.var [.cell (.int .i64 x3)])), (24, (.var [.cell (.int .i64 y0)])), (25, (.var [.cell (.int .i64 y1)]))]⟩
def f78_p1_P (x6 : List Int) (x3 x12 : Int) (x13 x14 : Int) (r : f78_p1_R) : Prop := Lp cx f78_M 23 (part Try.f78 1) (f78_p1_H x6 x3 x12 x13 x14) (f78_p1_x r) (f78_p1_s x6 x3 r)
noncomputable def f78_v : (Int × Int) → G := fun (y0, y1) => (.r (.at .unit0))
noncomputable def f78_k0 : (Int × Int) → List (Nat × Blk) := fun (y0, y1) => [(24, (.var [.cell (.int .i64 y0)])), (25, (.var [.cell (.int .i64 y1)]))]
noncomputable def f78_k (x1 x2 : List Int) (x3 x4 x5 : Int) : (Int × Int) → List (Nat × Blk) := fun (y0, y1) => [(24, (.var [.cell (.int .i64 y0)])), (25, (.var [.cell (.int .i64 y1)])), (22, (.var [.cell (.int .i64 x3)]))]
noncomputable def f78_A (x1 x2 : List Int) (x3 x4 x5 : Int) : List G := [(.r (.agg [.cell (.lst (.int .i64) x1 false), .cell (.lst (.int .i64) x2 false)])), (.r (.at (.app2 (.app2 (.app2 (.fn 80) (.ptr 22 0 0)) (.ptr 25 0 0)) (.ptr 24 0 0))))]
noncomputable def f78_K (x1 x2 : List Int) (x3 x4 x5 : Int) : List (Nat × Blk) := [(22, (.var [.cell (.int .i64 x3)])), (24, (.var [.cell (.int .i64 x4)])), (25, (.var [.cell (.int .i64 x5)]))]
def f78_C (x1 x2 : List Int) (x3 x4 x5 : Int) (r : Int × Int) : Prop := CallOK cx 78 (f78_A x1 x2 x3 x4 x5) (f78_K x1 x2 x3 x4 x5) [] (f78_v r) (f78_k x1 x2 x3 x4 x5 r)

def f40_M : List Nat := [22, 23, 24, 25]
noncomputable def f40_v : (Int × Int) → G := fun (y0, y1) => (.tup [(.at (.int .i64 y0)), (.at (.int .i64 y1))])
noncomputable def f40_k0 : (Int × Int) → List (Nat × Blk) := fun (y0, y1) => []
noncomputable def f40_k (x1 x2 : List Int) (x3 : Int) : (Int × Int) → List (Nat × Blk) := fun (y0, y1) => []
noncomputable def f40_A (x1 x2 : List Int) (x3 : Int) : List G := [(GL x1), (GL x2), (GI x3)]
noncomputable def f40_K (x1 x2 : List Int) (x3 : Int) : List (Nat × Blk) := []
def f40_C (x1 x2 : List Int) (x3 : Int) (r : Int × Int) : Prop := CallOK cx 40 (f40_A x1 x2 x3) (f40_K x1 x2 x3) [] (f40_v r) (f40_k x1 x2 x3 r)

def f23_M : List Nat := []
noncomputable def f23_p2_H (x1 x2 : List Int) (x3 : Int) : GS := ⟨[(0, (GL x1)), (1, (GL x2)), (5, (GI x3))], []⟩
noncomputable def f23_p2_x : f23_p2_R → GExit := fun
  | .c0 => .ret
  | .c1 => (.exit 0)
noncomputable def f23_p2_s (x1 x2 : List Int) : f23_p2_R → GS := fun
  | .c0 => ⟨[(4, (.r (.at (.bool false))))], []⟩
  | .c1 => ⟨[], []⟩
def f23_p2_P (x1 x2 : List Int) (x3 : Int) (r : f23_p2_R) : Prop := Lp cx f23_M 26 (part Try.f23 2) (f23_p2_H x1 x2 x3) (f23_p2_x r) (f23_p2_s x1 x2 r)
noncomputable def f23_v : Bool → G := fun y0 => (GB y0)
noncomputable def f23_k0 : Bool → List (Nat × Blk) := fun y0 => []
noncomputable def f23_k (x1 x2 : List Int) : Bool → List (Nat × Blk) := fun y0 => []
noncomputable def f23_A (x1 x2 : List Int) : List G := [(GL x1), (GL x2)]
noncomputable def f23_K (x1 x2 : List Int) : List (Nat × Blk) := []
def f23_C (x1 x2 : List Int) (r : Bool) : Prop := CallOK cx 23 (f23_A x1 x2) (f23_K x1 x2) [] (f23_v r) (f23_k x1 x2 r)

def f24_M : List Nat := []
noncomputable def f24_v : ((List Int) × Int) → G := fun (y0, y1) => (.tup [(.at (.lst (.int .i64) y0 false)), (.at (.int .i64 y1))])
noncomputable def f24_k0 : ((List Int) × Int) → List (Nat × Blk) := fun (y0, y1) => []
noncomputable def f24_k (x1 : List Int) (x2 : Int) : ((List Int) × Int) → List (Nat × Blk) := fun (y0, y1) => []
noncomputable def f24_A (x1 : List Int) (x2 : Int) : List G := [(GL x1), (GI x2)]
noncomputable def f24_K (x1 : List Int) (x2 : Int) : List (Nat × Blk) := []
def f24_C (x1 : List Int) (x2 : Int) (r : (List Int) × Int) : Prop := CallOK cx 24 (f24_A x1 x2) (f24_K x1 x2) [] (f24_v r) (f24_k x1 x2 r)

def f17_M : List Nat := []
noncomputable def f17_v : (Bool × Int) → G := fun (y0, y1) => (.tup [(.at (.bool y0)), (.at (.int .i64 y1))])
noncomputable def f17_k0 : (Bool × Int) → List (Nat × Blk) := fun (y0, y1) => []
noncomputable def f17_k (x1 : List Int) (x2 : Int) : (Bool × Int) → List (Nat × Blk) := fun (y0, y1) => []
noncomputable def f17_A (x1 : List Int) (x2 : Int) : List G := [(GL x1), (GI x2)]
noncomputable def f17_K (x1 : List Int) (x2 : Int) : List (Nat × Blk) := []
def f17_C (x1 : List Int) (x2 : Int) (r : Bool × Int) : Prop := CallOK cx 17 (f17_A x1 x2) (f17_K x1 x2) [] (f17_v r) (f17_k x1 x2 r)

def f34_M : List Nat := [29]
noncomputable def f34_p5_H (x1 x5 : List Int) (x6 : Int) (x10 : Bool) : GS := ⟨[(0, (GL x1)), (5, (.r (.at (.sl 29 0 (List.length x5))))), (6, (GI x6)), (13, (GL x1)), (14, (.r (.at (.int .i64 ((List.length x1 : Nat) : Int))))), (15, (GI x6)), (33, (.r (.at (.bool (!x10)))))], [(29, (.gr (.int .i64) 3 x5 true))]⟩
noncomputable def f34_p5_x : (List Int) → GExit := fun y0 => .normal
noncomputable def f34_p5_s (x1 x5 : List Int) (x6 : Int) (x10 : Bool) : (List Int) → GS := fun y0 => ⟨[(0, (GL x1)), (5, (.r (.at (.sl 29 0 (List.length y0))))), (13, (GL x1)), (14, (.r (.at (.int .i64 ((List.length x1 : Nat) : Int))))), (15, (GI x6))], [(29, (.gr (.int .i64) 3 y0 true))]⟩
def f34_p5_P (x1 x5 : List Int) (x6 : Int) (x10 : Bool) (r : (List Int)) : Prop := Ex cx f34_M 40 (part Try.f34 5) (f34_p5_H x1 x5 x6 x10) (f34_p5_x r) (f34_p5_s x1 x5 x6 x10 r)
noncomputable def f34_p2_H (x1 : List Int) (x6 : Int) (x5 : List Int) : GS := ⟨[(0, (GL x1)), (5, (.r (.at (.sl 29 0 (List.length x5))))), (13, (GL x1)), (14, (.r (.at (.int .i64 ((List.length x1 : Nat) : Int))))), (15, (GI x6))], [(29, (.gr (.int .i64) 3 x5 true))]⟩
noncomputable def f34_p2_x : (List Int) → GExit := fun y0 => (.exit 0)
noncomputable def f34_p2_s (x1 : List Int) : (List Int) → GS := fun y0 => ⟨[(5, (.r (.at (.sl 29 0 (List.length y0)))))], [(29, (.gr (.int .i64) 3 y0 true))]⟩
def f34_p2_P (x1 : List Int) (x6 : Int) (x5 : List Int) (r : (List Int)) : Prop := Lp cx f34_M 40 (part Try.f34 2) (f34_p2_H x1 x6 x5) (f34_p2_x r) (f34_p2_s x1 r)
noncomputable def f34_v : ((List Int) × Int) → G := fun (y0, y1) => (.tup [(.at (.lst (.int .i64) y0 false)), (.at (.int .i64 y1))])
noncomputable def f34_k0 : ((List Int) × Int) → List (Nat × Blk) := fun (y0, y1) => []
noncomputable def f34_k (x1 : List Int) : ((List Int) × Int) → List (Nat × Blk) := fun (y0, y1) => []
noncomputable def f34_A (x1 : List Int) : List G := [(GL x1)]
noncomputable def f34_K (x1 : List Int) : List (Nat × Blk) := []
def f34_C (x1 : List Int) (r : (List Int) × Int) : Prop := CallOK cx 34 (f34_A x1) (f34_K x1) [] (f34_v r) (f34_k x1 r)

def f36_M : List Nat := [30]
noncomputable def f36_v : (Int × Int) → G := fun (y0, y1) => (.tup [(.at (.int .i64 y0)), (.at (.int .i64 y1))])
noncomputable def f36_k0 : (Int × Int) → List (Nat × Blk) := fun (y0, y1) => []
noncomputable def f36_k (x1 x2 : List Int) (x3 : Int) : (Int × Int) → List (Nat × Blk) := fun (y0, y1) => []
noncomputable def f36_A (x1 x2 : List Int) (x3 : Int) : List G := [(GL x1), (GL x2), (GI x3)]
noncomputable def f36_K (x1 x2 : List Int) (x3 : Int) : List (Nat × Blk) := []
def f36_C (x1 x2 : List Int) (x3 : Int) (r : Int × Int) : Prop := CallOK cx 36 (f36_A x1 x2 x3) (f36_K x1 x2 x3) [] (f36_v r) (f36_k x1 x2 x3 r)

def f47_1_M : List Nat := [2]
noncomputable def f47_1_v : (List Int) → G := fun y0 => (.r (.at (.sl 2 0 (List.length y0))))
noncomputable def f47_1_k0 : (List Int) → List (Nat × Blk) := fun y0 => [(2, (.gr (.int .i64) 3 y0 true))]
noncomputable def f47_1_k (x1 : Option (List Int)) : (List Int) → List (Nat × Blk) := fun y0 => [(2, (.gr (.int .i64) 3 y0 true))]
noncomputable def f47_1_A (x1 : Option (List Int)) : List G := [(.r (.at (.olst (.int .i64) x1)))]
noncomputable def f47_1_K (x1 : Option (List Int)) : List (Nat × Blk) := []
def f47_1_C (x1 : Option (List Int)) (r : (List Int)) : Prop := CallOK cx 47 (f47_1_A x1) (f47_1_K x1) [] (f47_1_v r) (f47_1_k x1 r)

noncomputable def f47_1m_v : (List Int) → G := f47_1_v
noncomputable def f47_1m_k0 : (List Int) → List (Nat × Blk) := f47_1_k0
noncomputable def f47_1m_k (x1 : List Int) : (List Int) → List (Nat × Blk) := f47_1_k (some x1)
noncomputable def f47_1m_A (x1 : List Int) : List G := [(GL x1)]
noncomputable def f47_1m_K (x1 : List Int) : List (Nat × Blk) := []
def f47_1m_C (x1 : List Int) (r : (List Int)) : Prop := CallOK cx 47 (f47_1m_A x1) (f47_1m_K x1) [] (f47_1m_v r) (f47_1m_k x1 r)

def f42_M : List Nat := [2, 31]
noncomputable def f42_p10_H (x3 x4 : Int) (x12 x14 : Int) (x10 : List Int) (x15 x11 : Int) (x5 x6 : List Int) : GS := ⟨[(2, (GI x3)), (3, (GI x4)), (8, (GI x12)), (10, (GI x14)), (11, (.r (.at (.ptr 31 0 0)))), (13, (GL x10)), (14, (GI x15)), (50, (.r (.at (.int .i64 (w64 (x11 + 1)))))), (51, (GI x15)), (72, (.r (.at (.bool (x14 != 0)))))], [(31, (.var [.cell (.lst (.int .i64) x5 false), .cell (.lst (.int .i64) x6 false)]))]⟩
noncomputable def f42_p10_x : (Int × Int) → GExit := fun (y0, y1) => .normal
noncomputable def f42_p10_s (x3 x4 : Int) (x12 x14 : Int) (x10 : List Int) (x15 x11 : Int) (x5 x6 : List Int) : (Int × Int) → GS := fun (y0, y1) => ⟨[(2, (GI x3)), (3, (GI x4)), (8, (GI y0)), (10, (GI y1)), (11, (.r (.at (.ptr 31 0 0)))), (13, (GL x10)), (14, (GI x15)), (50, (.r (.at (.int .i64 (w64 (x11 + 1)))))), (51, (GI x15))], [(31, (.var [.cell (.lst (.int .i64) x5 false), .cell (.lst (.int .i64) x6 false)]))]⟩
def f42_p10_P (x3 x4 : Int) (x12 x14 : Int) (x10 : List Int) (x15 x11 : Int) (x5 x6 : List Int) (r : Int × Int) : Prop := Ex cx f42_M 81 (part Try.f42 10) (f42_p10_H x3 x4 x12 x14 x10 x15 x11 x5 x6) (f42_p10_x r) (f42_p10_s x3 x4 x12 x14 x10 x15 x11 x5 x6 r)
noncomputable def f42_p4_H (x3 x4 : Int) (x10 : List Int) (x11 : Int) (x5 x6 : List Int) (x12 x13 : Int) (x14 x15 : Int) : GS := ⟨[(2, (GI x3)), (3, (GI x4)), (8, (GI x12)), (9, (GI x13)), (10, (GI x14)), (11, (.r (.at (.ptr 31 0 0)))), (13, (GL x10)), (50, (.r (.at (.int .i64 (w64 (x11 + 1)))))), (51, (GI x15))], [(31, (.var [.cell (.lst (.int .i64) x5 false), .cell (.lst (.int .i64) x6 false)]))]⟩
noncomputable def f42_p4_x : (Int × Int × Int) → GExit := fun (y0, y1, y2) => (.exit 1)
noncomputable def f42_p4_s (x3 x4 : Int) (x10 : List Int) (x11 : Int) (x5 x6 : List Int) : (Int × Int × Int) → GS := fun (y0, y1, y2) => ⟨[(8, (GI y0)), (9, (GI y1)), (10, (GI y2))], []⟩
def f42_p4_P (x3 x4 : Int) (x10 : List Int) (x11 : Int) (x5 x6 : List Int) (x12 x13 : Int) (x14 x15 : Int) (r : Int × Int × Int) : Prop := Lp cx f42_M 81 (part Try.f42 4) (f42_p4_H x3 x4 x10 x11 x5 x6 x12 x13 x14 x15) (f42_p4_x r) (f42_p4_s x3 x4 x10 x11 x5 x6 r)
noncomputable def f42_v : (Int × Int × Int) → G := fun (y0, y1, y2) => (.tup [(.at (.int .i64 y0)), (.at (.int .i64 y1)), (.at (.int .i64 y2))])
noncomputable def f42_k0 : (Int × Int × Int) → List (Nat × Blk) := fun (y0, y1, y2) => []
noncomputable def f42_k (x1 x2 : List Int) (x3 x4 : Int) : (Int × Int × Int) → List (Nat × Blk) := fun (y0, y1, y2) => []
noncomputable def f42_A (x1 x2 : List Int) (x3 x4 : Int) : List G := [(GL x1), (GL x2), (GI x3), (GI x4)]
noncomputable def f42_K (x1 x2 : List Int) (x3 x4 : Int) : List (Nat × Blk) := []
def f42_C (x1 x2 : List Int) (x3 x4 : Int) (r : Int × Int × Int) : Prop := CallOK cx 42 (f42_A x1 x2 x3 x4) (f42_K x1 x2 x3 x4) [] (f42_v r) (f42_k x1 x2 x3 x4 r)

def f79_M : List Nat := [34]
noncomputable def f79_v : (Bool × (List Int)) → G := fun (y0, y1) => (GB y0)
noncomputable def f79_k0 : (Bool × (List Int)) → List (Nat × Blk) := fun (y0, y1) => [(33, (.var [.cell (.sl 34 0 (List.length y1))])), (34, (.gr (.int .i64) 3 y1 true))]
noncomputable def f79_k (x1 : Int) (x2 : List Int) : (Bool × (List Int)) → List (Nat × Blk) := fun (y0, y1) => [(33, (.var [.cell (.sl 34 0 (List.length y1))])), (34, (.gr (.int .i64) 3 y1 true))]
noncomputable def f79_A (x1 : Int) (x2 : List Int) : List G := [(GI x1), (.r (.at (.ptr 33 0 0)))]
noncomputable def f79_K (x1 : Int) (x2 : List Int) : List (Nat × Blk) := [(33, (.var [.cell (.sl 34 0 (List.length x2))])), (34, (.gr (.int .i64) 3 x2 true))]
def f79_C (x1 : Int) (x2 : List Int) (r : Bool × (List Int)) : Prop := CallOK cx 79 (f79_A x1 x2) (f79_K x1 x2) [34] (f79_v r) (f79_k x1 x2 r)

def f78_1_M : List Nat := [34, 35]
noncomputable def f78_1_p1_H (x4 : List Int) (x10 : Int) (x9 : List Int) : GS := ⟨[(1, (.r (.at (.app2 (.fn 79) (.ptr 33 0 0))))), (7, (GL x4)), (8, (.r (.at (.int .i64 ((List.length x4 : Nat) : Int))))), (9, (GI x10))], [(33, (.var [.cell (.sl 34 0 (List.length x9))])), (34, (.gr (.int .i64) 3 x9 true))]⟩
noncomputable def f78_1_p1_x : f78_1_p1_R → GExit := fun
  | .c0 y0 => .ret
  | .c1 y0 => (.exit 0)
noncomputable def f78_1_p1_s (x4 : List Int) : f78_1_p1_R → GS := fun
  | .c0 y0 => ⟨[], [(33, (.var [.cell (.sl 34 0 (List.length y0))])), (34, (.gr (.int .i64) 3 y0 true))]⟩
  | .c1 y0 => ⟨[], [(33, (.var [.cell (.sl 34 0 (List.length y0))])), (34, (.gr (.int .i64) 3 y0 true))]⟩
def f78_1_p1_P (x4 : List Int) (x10 : Int) (x9 : List Int) (r : f78_1_p1_R) : Prop := Lp cx f78_1_M 23 (part Try.f78 1) (f78_1_p1_H x4 x10 x9) (f78_1_p1_x r) (f78_1_p1_s x4 r)
noncomputable def f78_1_v : (List Int) → G := fun y0 => (.r (.at .unit0))
noncomputable def f78_1_k0 : (List Int) → List (Nat × Blk) := fun y0 => [(33, (.var [.cell (.sl 34 0 (List.length y0))])), (34, (.gr (.int .i64) 3 y0 true))]
noncomputable def f78_1_k (x1 x2 x3 : List Int) : (List Int) → List (Nat × Blk) := fun y0 => [(33, (.var [.cell (.sl 34 0 (List.length y0))])), (34, (.gr (.int .i64) 3 y0 true))]
noncomputable def f78_1_A (x1 x2 x3 : List Int) : List G := [(.r (.agg [.cell (.lst (.int .i64) x1 false), .cell (.lst (.int .i64) x2 false)])), (.r (.at (.app2 (.fn 79) (.ptr 33 0 0))))]
noncomputable def f78_1_K (x1 x2 x3 : List Int) : List (Nat × Blk) := [(33, (.var [.cell (.sl 34 0 (List.length x3))])), (34, (.gr (.int .i64) 3 x3 true))]
def f78_1_C (x1 x2 x3 : List Int) (r : (List Int)) : Prop := CallOK cx 78 (f78_1_A x1 x2 x3) (f78_1_K x1 x2 x3) [34] (f78_1_v r) (f78_1_k x1 x2 x3 r)

def f38_M : List Nat := [32, 33, 34]
noncomputable def f38_v : ((List Int) × Int) → G := fun (y0, y1) => (.tup [(.at (.lst (.int .i64) y0 false)), (.at (.int .i64 y1))])
noncomputable def f38_k0 : ((List Int) × Int) → List (Nat × Blk) := fun (y0, y1) => []
noncomputable def f38_k (x1 x2 : List Int) : ((List Int) × Int) → List (Nat × Blk) := fun (y0, y1) => []
noncomputable def f38_A (x1 x2 : List Int) : List G := [(GL x1), (GL x2)]
noncomputable def f38_K (x1 x2 : List Int) : List (Nat × Blk) := []
def f38_C (x1 x2 : List Int) (r : (List Int) × Int) : Prop := CallOK cx 38 (f38_A x1 x2) (f38_K x1 x2) [] (f38_v r) (f38_k x1 x2 r)

def f16_M : List Nat := []
noncomputable def f16_v : Bool → G := fun y0 => (GB y0)
noncomputable def f16_k0 : Bool → List (Nat × Blk) := fun y0 => []
noncomputable def f16_k : Bool → List (Nat × Blk) := fun y0 => []
noncomputable def f16_A : List G := []
noncomputable def f16_K : List (Nat × Blk) := []
def f16_C (r : Bool) : Prop := CallOK cx 16 (f16_A) (f16_K) [] (f16_v r) (f16_k r)

def f87_M : List Nat := []
noncomputable def f87_v : Bool → G := fun y0 => (GB y0)
noncomputable def f87_k0 : Bool → List (Nat × Blk) := fun y0 => []
noncomputable def f87_k (x1 x2 : Int) : Bool → List (Nat × Blk) := fun y0 => [(41, (.var [.cell (.int .i64 x2)]))]
noncomputable def f87_A (x1 x2 : Int) : List G := [(GI x1), (.r (.at (.ptr 41 0 0)))]
noncomputable def f87_K (x1 x2 : Int) : List (Nat × Blk) := [(41, (.var [.cell (.int .i64 x2)]))]
def f87_C (x1 x2 : Int) (r : Bool) : Prop := CallOK cx 87 (f87_A x1 x2) (f87_K x1 x2) [] (f87_v r) (f87_k x1 x2 r)

def f104_M : List Nat := []
noncomputable def f104_p1_H (x1 : List Int) (x2 x3 : Int) : GS := ⟨[(0, (GL x1)), (1, (.r (.at (.app2 (.fn 87) (.ptr 41 0 0))))), (7, (.r (.at (.int .i64 ((List.length x1 : Nat) : Int))))), (8, (GI x3))], [(41, (.var [.cell (.int .i64 x2)]))]⟩
noncomputable def f104_p1_x : f104_p1_R → GExit := fun
  | .c0 y0 => .ret
  | .c1 => (.exit 0)
noncomputable def f104_p1_s (x1 : List Int) (x2 : Int) : f104_p1_R → GS := fun
  | .c0 y0 => ⟨[(4, (GI y0))], [(41, (.var [.cell (.int .i64 x2)]))]⟩
  | .c1 => ⟨[], [(41, (.var [.cell (.int .i64 x2)]))]⟩
def f104_p1_P (x1 : List Int) (x2 x3 : Int) (r : f104_p1_R) : Prop := Lp cx f104_M 19 (part Try.f104 1) (f104_p1_H x1 x2 x3) (f104_p1_x r) (f104_p1_s x1 x2 r)
noncomputable def f104_v : Int → G := fun y0 => (GI y0)
noncomputable def f104_k0 : Int → List (Nat × Blk) := fun y0 => []
noncomputable def f104_k (x1 : List Int) (x2 : Int) : Int → List (Nat × Blk) := fun y0 => [(41, (.var [.cell (.int .i64 x2)]))]
noncomputable def f104_A (x1 : List Int) (x2 : Int) : List G := [(GL x1), (.r (.at (.app2 (.fn 87) (.ptr 41 0 0))))]
noncomputable def f104_K (x1 : List Int) (x2 : Int) : List (Nat × Blk) := [(41, (.var [.cell (.int .i64 x2)]))]
def f104_C (x1 : List Int) (x2 : Int) (r : Int) : Prop := CallOK cx 104 (f104_A x1 x2) (f104_K x1 x2) [] (f104_v r) (f104_k x1 x2 r)

def f86_M : List Nat := []
noncomputable def f86_v : Bool → G := fun y0 => (GB y0)
noncomputable def f86_k0 : Bool → List (Nat × Blk) := fun y0 => []
noncomputable def f86_k (x1 : List Int) (x2 : Int) : Bool → List (Nat × Blk) := fun y0 => [(41, (.var [.cell (.int .i64 x2)]))]
noncomputable def f86_A (x1 : List Int) (x2 : Int) : List G := [(GL x1), (.r (.at (.app2 (.fn 87) (.ptr 41 0 0))))]
noncomputable def f86_K (x1 : List Int) (x2 : Int) : List (Nat × Blk) := [(41, (.var [.cell (.int .i64 x2)]))]
def f86_C (x1 : List Int) (x2 : Int) (r : Bool) : Prop := CallOK cx 86 (f86_A x1 x2) (f86_K x1 x2) [] (f86_v r) (f86_k x1 x2 r)

def f53_M : List Nat := [41]
noncomputable def f53_p1_H (x1 : List Int) (x4 : Int) : GS := ⟨[(0, (GL x1)), (3, (.r (.at (.ptr 41 0 0))))], [(41, (.var [.cell (.int .i64 x4)]))]⟩
noncomputable def f53_p1_x : f53_p1_R → GExit := fun
  | .c0 => .ret
  | .c1 => (.exit 0)
noncomputable def f53_p1_s (x1 : List Int) : f53_p1_R → GS := fun
  | .c0 => ⟨[(2, (.r (.at (.bool true))))], []⟩
  | .c1 => ⟨[], []⟩
def f53_p1_P (x1 : List Int) (x4 : Int) (r : f53_p1_R) : Prop := Lp cx f53_M 15 (part Try.f53 1) (f53_p1_H x1 x4) (f53_p1_x r) (f53_p1_s x1 r)
noncomputable def f53_v : Bool → G := fun y0 => (GB y0)
noncomputable def f53_k0 : Bool → List (Nat × Blk) := fun y0 => []
noncomputable def f53_k (x1 : List Int) : Bool → List (Nat × Blk) := fun y0 => []
noncomputable def f53_A (x1 : List Int) : List G := [(GL x1)]
noncomputable def f53_K (x1 : List Int) : List (Nat × Blk) := []
def f53_C (x1 : List Int) (r : Bool) : Prop := CallOK cx 53 (f53_A x1) (f53_K x1) [] (f53_v r) (f53_k x1 r)

def f54_M : List Nat := [42]
noncomputable def f54_p5_1_H (x1 : List Int) (x2 x14 x19 : Int) (x18 : List Bool) : GS := ⟨[(0, (GL x1)), (5, (.r (.at (.sl 42 0 (Int.toNat (w64 (x2 + 1))))))), (6, (GI x14)), (13, (.r (.at (.int .i64 (((Int.toNat (w64 (x2 + 1))) : Nat) : Int))))), (14, (GI x14)), (22, (GL x1)), (23, (.r (.at (.int .i64 ((List.length x1 : Nat) : Int))))), (24, (GI x19))], [(42, (.gr .bool 4 x18 true))]⟩
noncomputable def f54_p5_1_x : (List Bool) → GExit := fun y0 => (.exit 2)
noncomputable def f54_p5_1_s (x1 : List Int) (x2 x14 : Int) : (List Bool) → GS := fun y0 => ⟨[(0, (GL x1)), (5, (.r (.at (.sl 42 0 (Int.toNat (w64 (x2 + 1))))))), (13, (.r (.at (.int .i64 (((Int.toNat (w64 (x2 + 1))) : Nat) : Int))))), (14, (GI x14))], [(42, (.gr .bool 4 y0 true))]⟩
def f54_p5_1_P (x1 : List Int) (x2 x14 x19 : Int) (x18 : List Bool) (r : (List Bool)) : Prop := Lp cx f54_M 51 (part Try.f54 5) (f54_p5_1_H x1 x2 x14 x19 x18) (f54_p5_1_x r) (f54_p5_1_s x1 x2 x14 r)
noncomputable def f54_p1_H (x1 : List Int) (x2 x14 : Int) (x13 : List Bool) : GS := ⟨[(0, (GL x1)), (5, (.r (.at (.sl 42 0 (Int.toNat (w64 (x2 + 1))))))), (13, (.r (.at (.int .i64 (((Int.toNat (w64 (x2 + 1))) : Nat) : Int))))), (14, (GI x14))], [(42, (.gr .bool 4 x13 true))]⟩
noncomputable def f54_p1_x : (List Bool) → GExit := fun y0 => (.exit 0)
noncomputable def f54_p1_s (x1 : List Int) (x2 : Int) : (List Bool) → GS := fun y0 => ⟨[(5, (.r (.at (.sl 42 0 (Int.toNat (w64 (x2 + 1)))))))], [(42, (.gr .bool 4 y0 true))]⟩
def f54_p1_P (x1 : List Int) (x2 x14 : Int) (x13 : List Bool) (r : (List Bool)) : Prop := Lp cx f54_M 51 (part Try.f54 1) (f54_p1_H x1 x2 x14 x13) (f54_p1_x r) (f54_p1_s x1 x2 r)
noncomputable def f54_v : (List Bool) → G := fun y0 => (.r (.at (.lst .bool y0 false)))
noncomputable def f54_k0 : (List Bool) → List (Nat × Blk) := fun y0 => []
noncomputable def f54_k (x1 : List Int) (x2 : Int) : (List Bool) → List (Nat × Blk) := fun y0 => []
noncomputable def f54_A (x1 : List Int) (x2 : Int) : List G := [(GL x1), (GI x2)]
noncomputable def f54_K (x1 : List Int) (x2 : Int) : List (Nat × Blk) := []
def f54_C (x1 : List Int) (x2 : Int) (r : (List Bool)) : Prop := CallOK cx 54 (f54_A x1 x2) (f54_K x1 x2) [] (f54_v r) (f54_k x1 x2 r)

def f82_M : List Nat := []
noncomputable def f82_p1_H (x1 : List Int) (x2 x3 : Int) : GS := ⟨[(0, (GL x1)), (1, (GI x2)), (7, (.r (.at (.int .i64 ((List.length x1 : Nat) : Int))))), (8, (GI x3))], []⟩
noncomputable def f82_p1_x : f82_p1_R → GExit := fun
  | .c0 y0 => .ret
  | .c1 => (.exit 0)
noncomputable def f82_p1_s (x1 : List Int) (x2 : Int) : f82_p1_R → GS := fun
  | .c0 y0 => ⟨[(4, (GI y0))], []⟩
  | .c1 => ⟨[], []⟩
def f82_p1_P (x1 : List Int) (x2 x3 : Int) (r : f82_p1_R) : Prop := Lp cx f82_M 19 (part Try.f82 1) (f82_p1_H x1 x2 x3) (f82_p1_x r) (f82_p1_s x1 x2 r)
noncomputable def f82_v : Int → G := fun y0 => (GI y0)
noncomputable def f82_k0 : Int → List (Nat × Blk) := fun y0 => []
noncomputable def f82_k (x1 : List Int) (x2 : Int) : Int → List (Nat × Blk) := fun y0 => []
noncomputable def f82_A (x1 : List Int) (x2 : Int) : List G := [(GL x1), (GI x2)]
noncomputable def f82_K (x1 : List Int) (x2 : Int) : List (Nat × Blk) := []
def f82_C (x1 : List Int) (x2 : Int) (r : Int) : Prop := CallOK cx 82 (f82_A x1 x2) (f82_K x1 x2) [] (f82_v r) (f82_k x1 x2 r)

def f48_M : List Nat := []
noncomputable def f48_v : Bool → G := fun y0 => (GB y0)
noncomputable def f48_k0 : Bool → List (Nat × Blk) := fun y0 => []
noncomputable def f48_k (x1 : List Int) (x2 : Int) : Bool → List (Nat × Blk) := fun y0 => []
noncomputable def f48_A (x1 : List Int) (x2 : Int) : List G := [(GL x1), (GI x2)]
noncomputable def f48_K (x1 : List Int) (x2 : Int) : List (Nat × Blk) := []
def f48_C (x1 : List Int) (x2 : Int) (r : Bool) : Prop := CallOK cx 48 (f48_A x1 x2) (f48_K x1 x2) [] (f48_v r) (f48_k x1 x2 r)

def f44_M : List Nat := [2, 45, 46]
noncomputable def f44_p4_1_H (x4 x5 : Int) (x9 : List Int) (x11 x3 x10 : Int) (x12 : Bool) (x1 x2 : List Int) : GS := ⟨[(1, (GI x4)), (2, (GI x5)), (3, (.r (.at (.ptr 45 0 0)))), (6, (.r (.at (.sl 2 0 (List.length x9))))), (7, (.r (.at .nils))), (9, (.r (.at (.int .i64 (w64 (1 + (Int.tmod (w64 (x11)) x4))))))), (15, (.r (.at (.int .i64 (w64 (1 + (Int.tmod (w64 (x3)) 4))))))), (16, (GI x10)), (30, (.r (.at (.bool (!x12)))))], [(2, (.gr (.int .i64) 3 x9 true)), (45, (.var [.arr (.int .u8) 4 x1, .arr (.int .u8) 4 x2, .cell (.int .u8 x3)]))]⟩
noncomputable def f44_p4_1_x : (List Int) → GExit := fun y0 => .normal
noncomputable def f44_p4_1_s (x4 x5 : Int) (x9 : List Int) (x11 x3 x10 : Int) (x12 : Bool) (x1 x2 : List Int) : (List Int) → GS := fun y0 => ⟨[(1, (GI x4)), (2, (GI x5)), (3, (.r (.at (.ptr 45 0 0)))), (6, (.r (.at (.sl 2 0 (List.length y0))))), (7, (.r (.at .nils))), (15, (.r (.at (.int .i64 (w64 (1 + (Int.tmod (w64 (x3)) 4))))))), (16, (GI x10))], [(2, (.gr (.int .i64) 3 y0 true)), (45, (.var [.arr (.int .u8) 4 x1, .arr (.int .u8) 4 x2, .cell (.int .u8 x3)]))]⟩
def f44_p4_1_P (x4 x5 : Int) (x9 : List Int) (x11 x3 x10 : Int) (x12 : Bool) (x1 x2 : List Int) (r : (List Int)) : Prop := Ex cx f44_M 57 (part Try.f44 4) (f44_p4_1_H x4 x5 x9 x11 x3 x10 x12 x1 x2) (f44_p4_1_x r) (f44_p4_1_s x4 x5 x9 x11 x3 x10 x12 x1 x2 r)
noncomputable def f44_p1_H (x4 x5 x3 : Int) (x1 x2 : List Int) (x10 : Int) (x9 : List Int) : GS := ⟨[(1, (GI x4)), (2, (GI x5)), (3, (.r (.at (.ptr 45 0 0)))), (6, (.r (.at (.sl 2 0 (List.length x9))))), (7, (.r (.at .nils))), (15, (.r (.at (.int .i64 (w64 (1 + (Int.tmod (w64 (x3)) 4))))))), (16, (GI x10))], [(2, (.gr (.int .i64) 3 x9 true)), (45, (.var [.arr (.int .u8) 4 x1, .arr (.int .u8) 4 x2, .cell (.int .u8 x3)]))]⟩
noncomputable def f44_p1_x : (List Int) → GExit := fun y0 => (.exit 0)
noncomputable def f44_p1_s (x4 x5 x3 : Int) (x1 x2 : List Int) : (List Int) → GS := fun y0 => ⟨[(2, (GI x5)), (3, (.r (.at (.ptr 45 0 0)))), (6, (.r (.at (.sl 2 0 (List.length y0))))), (7, (.r (.at .nils)))], [(2, (.gr (.int .i64) 3 y0 true)), (45, (.var [.arr (.int .u8) 4 x1, .arr (.int .u8) 4 x2, .cell (.int .u8 x3)]))]⟩
def f44_p1_P (x4 x5 x3 : Int) (x1 x2 : List Int) (x10 : Int) (x9 : List Int) (r : (List Int)) : Prop := Lp cx f44_M 57 (part Try.f44 1) (f44_p1_H x4 x5 x3 x1 x2 x10 x9) (f44_p1_x r) (f44_p1_s x4 x5 x3 x1 x2 r)
noncomputable def f44_p6_H (x5 : Int) (x14 x15 : List Int) (x1 x2 : List Int) (x3 x19 : Int) (x18 : List Int) : GS := ⟨[(2, (GI x5)), (3, (.r (.at (.ptr 45 0 0)))), (6, (.r (.at (.sl 2 0 (List.length x14))))), (7, (.r (.at (.sl 46 0 (List.length x18))))), (39, (.r (.at (.int .i64 (((List.length x14) : Nat) : Int))))), (40, (GI x19))], [(2, (.gr (.int .i64) 3 x15 true)), (45, (.var [.arr (.int .u8) 4 x1, .arr (.int .u8) 4 x2, .cell (.int .u8 x3)])), (46, (.gr (.int .i64) 3 x18 true))]⟩
noncomputable def f44_p6_x : (List Int) → GExit := fun y0 => (.exit 2)
noncomputable def f44_p6_s (x5 : Int) (x14 x15 : List Int) (x1 x2 : List Int) (x3 : Int) : (List Int) → GS := fun y0 => ⟨[(6, (.r (.at (.sl 2 0 (List.length x14))))), (7, (.r (.at (.sl 46 0 (List.length y0)))))], [(2, (.gr (.int .i64) 3 x15 true)), (46, (.gr (.int .i64) 3 y0 true))]⟩
def f44_p6_P (x5 : Int) (x14 x15 : List Int) (x1 x2 : List Int) (x3 x19 : Int) (x18 : List Int) (r : (List Int)) : Prop := Lp cx f44_M 57 (part Try.f44 6) (f44_p6_H x5 x14 x15 x1 x2 x3 x19 x18) (f44_p6_x r) (f44_p6_s x5 x14 x15 x1 x2 x3 r)
noncomputable def f44_v : ((List Int) × (List Int)) → G := fun (y0, y1) => (.tup [(.at (.lst (.int .i64) y0 false)), (.at (.lst (.int .i64) y1 false))])
noncomputable def f44_k0 : ((List Int) × (List Int)) → List (Nat × Blk) := fun (y0, y1) => []
noncomputable def f44_k (x1 x2 : List Int) (x3 x4 x5 : Int) : ((List Int) × (List Int)) → List (Nat × Blk) := fun (y0, y1) => []
noncomputable def f44_A (x1 x2 : List Int) (x3 x4 x5 : Int) : List G := [(.r (.agg [.arr (.int .u8) 4 x1, .arr (.int .u8) 4 x2, .cell (.int .u8 x3)])), (GI x4), (GI x5)]
noncomputable def f44_K (x1 x2 : List Int) (x3 x4 x5 : Int) : List (Nat × Blk) := []
def f44_C (x1 x2 : List Int) (x3 x4 x5 : Int) (r : (List Int) × (List Int)) : Prop := CallOK cx 44 (f44_A x1 x2 x3 x4 x5) (f44_K x1 x2 x3 x4 x5) [] (f44_v r) (f44_k x1 x2 x3 x4 x5 r)

def f11_M : List Nat := [44]
noncomputable def f11_p9_H (x6 : List Int) (x5 x8 : Int) (x11 : List Bool) (x12 x13 : Int) (x14 : Bool) (x16 x17 x18 : Int) (x9 : List Int) (x15 : Int) (x19 : Bool) : GS := ⟨[(7, (GL x6)), (10, (.r (.at (.int .i64 (Int.tmod (w64 (x5)) 1001))))), (11, (GI x8)), (14, (.r (.at (.lst .bool x11 false)))), (15, (GI x12)), (16, (GI x13)), (17, (GB x14)), (19, (GI x16)), (20, (GI x17)), (21, (GI x18)), (65, (GL x9)), (66, (.r (.at (.int .i64 ((List.length x9 : Nat) : Int))))), (67, (GI x15)), (87, (GB x19))], []⟩
noncomputable def f11_p9_x : Int → GExit := fun y0 => .normal
noncomputable def f11_p9_s (x6 : List Int) (x5 x8 : Int) (x11 : List Bool) (x12 x13 : Int) (x14 : Bool) (x16 x17 x18 : Int) (x9 : List Int) (x15 : Int) (x19 : Bool) : Int → GS := fun y0 => ⟨[(7, (GL x6)), (10, (.r (.at (.int .i64 (Int.tmod (w64 (x5)) 1001))))), (11, (GI x8)), (14, (.r (.at (.lst .bool x11 false)))), (15, (GI x12)), (16, (GI x13)), (17, (GB x14)), (19, (GI x16)), (20, (GI y0)), (21, (GI x18)), (65, (GL x9)), (66, (.r (.at (.int .i64 ((List.length x9 : Nat) : Int))))), (67, (GI x15))], []⟩
def f11_p9_P (x6 : List Int) (x5 x8 : Int) (x11 : List Bool) (x12 x13 : Int) (x14 : Bool) (x16 x17 x18 : Int) (x9 : List Int) (x15 : Int) (x19 : Bool) (r : Int) : Prop := Ex cx f11_M 259 (part Try.f11 9) (f11_p9_H x6 x5 x8 x11 x12 x13 x14 x16 x17 x18 x9 x15 x19) (f11_p9_x r) (f11_p9_s x6 x5 x8 x11 x12 x13 x14 x16 x17 x18 x9 x15 x19 r)
noncomputable def f11_p6_H (x6 : List Int) (x5 x8 : Int) (x11 : List Bool) (x12 x13 : Int) (x14 : Bool) (x16 : Int) (x9 : List Int) (x15 x17 x18 : Int) : GS := ⟨[(7, (GL x6)), (10, (.r (.at (.int .i64 (Int.tmod (w64 (x5)) 1001))))), (11, (GI x8)), (14, (.r (.at (.lst .bool x11 false)))), (15, (GI x12)), (16, (GI x13)), (17, (GB x14)), (19, (GI x16)), (20, (GI x17)), (21, (GI x18)), (65, (GL x9)), (66, (.r (.at (.int .i64 ((List.length x9 : Nat) : Int))))), (67, (GI x15))], []⟩
noncomputable def f11_p6_x : Int → GExit := fun y0 => (.exit 2)
noncomputable def f11_p6_s (x6 : List Int) (x5 x8 : Int) (x11 : List Bool) (x12 x13 : Int) (x14 : Bool) (x16 : Int) (x9 : List Int) (x15 : Int) : Int → GS := fun y0 => ⟨[(7, (GL x6)), (10, (.r (.at (.int .i64 (Int.tmod (w64 (x5)) 1001))))), (11, (GI x8)), (14, (.r (.at (.lst .bool x11 false)))), (15, (GI x12)), (16, (GI x13)), (17, (GB x14)), (19, (GI x16)), (20, (GI y0)), (65, (GL x9)), (66, (.r (.at (.int .i64 ((List.length x9 : Nat) : Int))))), (67, (GI x15))], []⟩
def f11_p6_P (x6 : List Int) (x5 x8 : Int) (x11 : List Bool) (x12 x13 : Int) (x14 : Bool) (x16 : Int) (x9 : List Int) (x15 x17 x18 : Int) (r : Int) : Prop := Lp cx f11_M 259 (part Try.f11 6) (f11_p6_H x6 x5 x8 x11 x12 x13 x14 x16 x9 x15 x17 x18) (f11_p6_x r) (f11_p6_s x6 x5 x8 x11 x12 x13 x14 x16 x9 x15 r)
noncomputable def f11_p2_H (x6 : List Int) (x5 x8 : Int) (x11 : List Bool) (x9 : List Int) (x12 x13 : Int) (x14 : Bool) (x15 : Int) : GS := ⟨[(7, (GL x6)), (10, (.r (.at (.int .i64 (Int.tmod (w64 (x5)) 1001))))), (11, (GI x8)), (14, (.r (.at (.lst .bool x11 false)))), (15, (GI x12)), (16, (GI x13)), (17, (GB x14)), (65, (GL x9)), (66, (.r (.at (.int .i64 ((List.length x9 : Nat) : Int))))), (67, (GI x15))], []⟩
noncomputable def f11_p2_x : f11_p2_R → GExit := fun
  | .c0 => .ret
  | .c1 y0 y1 y2 => (.exit 0)
noncomputable def f11_p2_s (x6 : List Int) (x5 x8 : Int) (x11 : List Bool) (x9 : List Int) : f11_p2_R → GS := fun
  | .c0 => ⟨[(6, (.r (.at (.bool false))))], []⟩
  | .c1 y0 y1 y2 => ⟨[(7, (GL x6)), (10, (.r (.at (.int .i64 (Int.tmod (w64 (x5)) 1001))))), (11, (GI x8)), (14, (.r (.at (.lst .bool x11 false)))), (15, (GI y0)), (16, (GI y1)), (17, (GB y2))], []⟩
def f11_p2_P (x6 : List Int) (x5 x8 : Int) (x11 : List Bool) (x9 : List Int) (x12 x13 : Int) (x14 : Bool) (x15 : Int) (r : f11_p2_R) : Prop := Lp cx f11_M 259 (part Try.f11 2) (f11_p2_H x6 x5 x8 x11 x9 x12 x13 x14 x15) (f11_p2_x r) (f11_p2_s x6 x5 x8 x11 x9 r)
noncomputable def f11_p18_H (x6 : List Int) (x5 x8 : Int) (x11 : List Bool) (x22 x23 : Int) (x24 : Bool) (x27 x28 : Int) (x29 x32 x33 : Int) (x34 : Bool) : GS := ⟨[(7, (GL x6)), (10, (.r (.at (.int .i64 (Int.tmod (w64 (x5)) 1001))))), (11, (GI x8)), (14, (.r (.at (.lst .bool x11 false)))), (15, (GI x22)), (16, (GI x23)), (17, (GB x24)), (23, (GI x27)), (24, (GI x28)), (25, (GI x29)), (26, (GI x32)), (27, (GI x33)), (161, (GB x34))], []⟩
noncomputable def f11_p18_x : Int → GExit := fun y0 => .normal
noncomputable def f11_p18_s (x6 : List Int) (x5 x8 : Int) (x11 : List Bool) (x22 x23 : Int) (x24 : Bool) (x27 x28 : Int) (x29 x32 x33 : Int) (x34 : Bool) : Int → GS := fun y0 => ⟨[(7, (GL x6)), (10, (.r (.at (.int .i64 (Int.tmod (w64 (x5)) 1001))))), (11, (GI x8)), (14, (.r (.at (.lst .bool x11 false)))), (15, (GI x22)), (16, (GI x23)), (17, (GB x24)), (23, (GI x27)), (24, (GI x28)), (25, (GI x29)), (26, (GI y0)), (27, (GI x33))], []⟩
def f11_p18_P (x6 : List Int) (x5 x8 : Int) (x11 : List Bool) (x22 x23 : Int) (x24 : Bool) (x27 x28 : Int) (x29 x32 x33 : Int) (x34 : Bool) (r : Int) : Prop := Ex cx f11_M 259 (part Try.f11 18) (f11_p18_H x6 x5 x8 x11 x22 x23 x24 x27 x28 x29 x32 x33 x34) (f11_p18_x r) (f11_p18_s x6 x5 x8 x11 x22 x23 x24 x27 x28 x29 x32 x33 x34 r)
noncomputable def f11_p15_H (x6 : List Int) (x5 x8 : Int) (x11 : List Bool) (x22 x23 : Int) (x24 : Bool) (x27 x28 : Int) (x29 x32 x33 : Int) : GS := ⟨[(7, (GL x6)), (10, (.r (.at (.int .i64 (Int.tmod (w64 (x5)) 1001))))), (11, (GI x8)), (14, (.r (.at (.lst .bool x11 false)))), (15, (GI x22)), (16, (GI x23)), (17, (GB x24)), (23, (GI x27)), (24, (GI x28)), (25, (GI x29)), (26, (GI x32)), (27, (GI x33))], []⟩
noncomputable def f11_p15_x : Int → GExit := fun y0 => (.exit 4)
noncomputable def f11_p15_s (x6 : List Int) (x5 x8 : Int) (x11 : List Bool) (x22 x23 : Int) (x24 : Bool) (x27 x28 x29 : Int) : Int → GS := fun y0 => ⟨[(7, (GL x6)), (10, (.r (.at (.int .i64 (Int.tmod (w64 (x5)) 1001))))), (11, (GI x8)), (15, (GI x22)), (16, (GI x23)), (17, (GB x24)), (23, (GI x27)), (24, (GI x28)), (25, (GI x29)), (26, (GI y0))], []⟩
def f11_p15_P (x6 : List Int) (x5 x8 : Int) (x11 : List Bool) (x22 x23 : Int) (x24 : Bool) (x27 x28 : Int) (x29 x32 x33 : Int) (r : Int) : Prop := Lp cx f11_M 259 (part Try.f11 15) (f11_p15_H x6 x5 x8 x11 x22 x23 x24 x27 x28 x29 x32 x33) (f11_p15_x r) (f11_p15_s x6 x5 x8 x11 x22 x23 x24 x27 x28 x29 r)
noncomputable def f11_p12_H (x6 : List Int) (x5 x8 : Int) (x11 : List Bool) (x22 x23 : Int) (x24 : Bool) (x27 x28 x29 : Int) (x25 : Bool) : GS := ⟨[(7, (GL x6)), (10, (.r (.at (.int .i64 (Int.tmod (w64 (x5)) 1001))))), (11, (GI x8)), (14, (.r (.at (.lst .bool x11 false)))), (15, (GI x22)), (16, (GI x23)), (17, (GB x24)), (23, (GI x27)), (24, (GI x28)), (25, (GI x29)), (129, (GB x25))], []⟩
noncomputable def f11_p12_x : f11_p12_R → GExit := fun
  | .c0 => .ret
  | .c1 => .normal
noncomputable def f11_p12_s (x6 : List Int) (x5 x8 : Int) (x11 : List Bool) (x22 x23 : Int) (x24 : Bool) (x27 x28 x29 : Int) (x25 : Bool) : f11_p12_R → GS := fun
  | .c0 => ⟨[(6, (.r (.at (.bool false))))], []⟩
  | .c1 => ⟨[(7, (GL x6)), (11, (GI x8)), (15, (GI x22)), (16, (GI x23)), (17, (GB x24))], []⟩
def f11_p12_P (x6 : List Int) (x5 x8 : Int) (x11 : List Bool) (x22 x23 : Int) (x24 : Bool) (x27 x28 x29 : Int) (x25 : Bool) (r : f11_p12_R) : Prop := Ex cx f11_M 259 (part Try.f11 12) (f11_p12_H x6 x5 x8 x11 x22 x23 x24 x27 x28 x29 x25) (f11_p12_x r) (f11_p12_s x6 x5 x8 x11 x22 x23 x24 x27 x28 x29 x25 r)
noncomputable def f11_v : Bool → G := fun y0 => (GB y0)
noncomputable def f11_k0 : Bool → List (Nat × Blk) := fun y0 => []
noncomputable def f11_k (x1 x2 : List Int) (x3 x4 x5 : Int) : Bool → List (Nat × Blk) := fun y0 => []
noncomputable def f11_A (x1 x2 : List Int) (x3 x4 x5 : Int) : List G := [(.r (.agg [.arr (.int .u8) 4 x1, .arr (.int .u8) 4 x2, .cell (.int .u8 x3)])), (.r (.at (.int .u8 x4))), (.r (.at (.int .u16 x5)))]
noncomputable def f11_K (x1 x2 : List Int) (x3 x4 x5 : Int) : List (Nat × Blk) := []
def f11_C (x1 x2 : List Int) (x3 x4 x5 : Int) (r : Bool) : Prop := CallOK cx 11 (f11_A x1 x2 x3 x4 x5) (f11_K x1 x2 x3 x4 x5) [] (f11_v r) (f11_k x1 x2 x3 x4 x5 r)

end Go.Gh.Pack
