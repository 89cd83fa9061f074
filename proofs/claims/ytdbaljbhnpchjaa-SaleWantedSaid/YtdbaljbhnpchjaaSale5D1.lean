/- Sale5D1: printed by wip/tool/gx.py -/
import Derived.Test.YtdbaljbhnpchjaaSale5D0
namespace Go.Gh.Sale
set_option linter.unusedVariables false
set_option linter.unusedSimpArgs false
open Go.Proofs

def f90_M : List Nat := [40]
noncomputable def f90_p8_3_H (x1 : List (List Int)) (x2 x3 x29 : List Int) (x28 x31 : Int) (x35 : Bool) : GS := ⟨[(0, (.r (.at (.lst (.list (.int .i64)) x1 false)))), (1, (GL x2)), (2, (GL x3)), (8, (.r (.at (.sl 40 0 (List.length x29))))), (9, (.r (.at (.bool true)))), (10, (GI x28)), (11, (GI x31)), (45, (.r (.at (.bool (!x35)))))], [(40, (.gr (.int .i64) 3 x29 true))]⟩
noncomputable def f90_p8_3_x : (List Int) → GExit := fun y0 => .normal
noncomputable def f90_p8_3_s (x1 : List (List Int)) (x2 x3 x29 : List Int) (x28 x31 : Int) (x35 : Bool) : (List Int) → GS := fun y0 => ⟨[(0, (.r (.at (.lst (.list (.int .i64)) x1 false)))), (1, (GL x2)), (2, (GL x3)), (8, (.r (.at (.sl 40 0 (List.length y0))))), (9, (.r (.at (.bool true)))), (10, (GI x28)), (11, (GI x31))], [(40, (.gr (.int .i64) 3 y0 true))]⟩
def f90_p8_3_P (x1 : List (List Int)) (x2 x3 x29 : List Int) (x28 x31 : Int) (x35 : Bool) (r : (List Int)) : Prop := Ex cx f90_M 52 (part Try.f90 8) (f90_p8_3_H x1 x2 x3 x29 x28 x31 x35) (f90_p8_3_x r) (f90_p8_3_s x1 x2 x3 x29 x28 x31 x35 r)
noncomputable def f90_p8_4_H (x1 : List (List Int)) (x2 x3 x29 : List Int) (x37 : Bool) (x28 x31 : Int) (x39 : Bool) : GS := ⟨[(0, (.r (.at (.lst (.list (.int .i64)) x1 false)))), (1, (GL x2)), (2, (GL x3)), (8, (.r (.at (.sl 40 0 (List.length x29))))), (9, (GB x37)), (10, (GI x28)), (11, (GI x31)), (45, (.r (.at (.bool (!x39)))))], [(40, (.gr (.int .i64) 3 x29 true))]⟩
noncomputable def f90_p8_4_x : (List Int) → GExit := fun y0 => .normal
noncomputable def f90_p8_4_s (x1 : List (List Int)) (x2 x3 x29 : List Int) (x37 : Bool) (x28 x31 : Int) (x39 : Bool) : (List Int) → GS := fun y0 => ⟨[(0, (.r (.at (.lst (.list (.int .i64)) x1 false)))), (1, (GL x2)), (2, (GL x3)), (8, (.r (.at (.sl 40 0 (List.length y0))))), (9, (GB x37)), (10, (GI x28)), (11, (GI x31))], [(40, (.gr (.int .i64) 3 y0 true))]⟩
def f90_p8_4_P (x1 : List (List Int)) (x2 x3 x29 : List Int) (x37 : Bool) (x28 x31 : Int) (x39 : Bool) (r : (List Int)) : Prop := Ex cx f90_M 52 (part Try.f90 8) (f90_p8_4_H x1 x2 x3 x29 x37 x28 x31 x39) (f90_p8_4_x r) (f90_p8_4_s x1 x2 x3 x29 x37 x28 x31 x39 r)
noncomputable def f90_p5_1_H (x1 : List (List Int)) (x2 x3 : List Int) (x28 : Int) (x30 : Bool) (x31 : Int) (x29 : List Int) : GS := ⟨[(0, (.r (.at (.lst (.list (.int .i64)) x1 false)))), (1, (GL x2)), (2, (GL x3)), (8, (.r (.at (.sl 40 0 (List.length x29))))), (9, (GB x30)), (10, (GI x28)), (11, (GI x31))], [(40, (.gr (.int .i64) 3 x29 true))]⟩
noncomputable def f90_p5_1_x : (Bool × (List Int)) → GExit := fun (y0, y1) => (.exit 2)
noncomputable def f90_p5_1_s (x1 : List (List Int)) (x2 x3 : List Int) (x28 : Int) : (Bool × (List Int)) → GS := fun (y0, y1) => ⟨[(0, (.r (.at (.lst (.list (.int .i64)) x1 false)))), (1, (GL x2)), (2, (GL x3)), (8, (.r (.at (.sl 40 0 (List.length y1))))), (9, (GB y0)), (10, (GI x28))], [(40, (.gr (.int .i64) 3 y1 true))]⟩
def f90_p5_1_P (x1 : List (List Int)) (x2 x3 : List Int) (x28 : Int) (x30 : Bool) (x31 : Int) (x29 : List Int) (r : Bool × (List Int)) : Prop := Lp cx f90_M 52 (part Try.f90 5) (f90_p5_1_H x1 x2 x3 x28 x30 x31 x29) (f90_p5_1_x r) (f90_p5_1_s x1 x2 x3 x28 r)
noncomputable def f90_p1_H (x1 : List (List Int)) (x2 x3 : List Int) (x27 : Bool) (x28 : Int) (x26 : List Int) : GS := ⟨[(0, (.r (.at (.lst (.list (.int .i64)) x1 false)))), (1, (GL x2)), (2, (GL x3)), (8, (.r (.at (.sl 40 0 (List.length x26))))), (9, (GB x27)), (10, (GI x28))], [(40, (.gr (.int .i64) 3 x26 true))]⟩
noncomputable def f90_p1_x : (Bool × (List Int)) → GExit := fun (y0, y1) => (.exit 0)
noncomputable def f90_p1_s (x1 : List (List Int)) (x2 x3 : List Int) : (Bool × (List Int)) → GS := fun (y0, y1) => ⟨[(8, (.r (.at (.sl 40 0 (List.length y1))))), (9, (GB y0))], [(40, (.gr (.int .i64) 3 y1 true))]⟩
def f90_p1_P (x1 : List (List Int)) (x2 x3 : List Int) (x27 : Bool) (x28 : Int) (x26 : List Int) (r : Bool × (List Int)) : Prop := Lp cx f90_M 52 (part Try.f90 1) (f90_p1_H x1 x2 x3 x27 x28 x26) (f90_p1_x r) (f90_p1_s x1 x2 x3 r)
noncomputable def f90_v : ((List Int) × Bool) → G := fun (y0, y1) => (.tup [(.at (.lst (.int .i64) y0 false)), (.at (.bool y1))])
noncomputable def f90_k0 : ((List Int) × Bool) → List (Nat × Blk) := fun (y0, y1) => []
noncomputable def f90_k (x1 : List (List Int)) (x2 x3 : List Int) : ((List Int) × Bool) → List (Nat × Blk) := fun (y0, y1) => []
noncomputable def f90_A (x1 : List (List Int)) (x2 x3 : List Int) : List G := [(.r (.at (.lst (.list (.int .i64)) x1 false))), (GL x2), (GL x3)]
noncomputable def f90_K (x1 : List (List Int)) (x2 x3 : List Int) : List (Nat × Blk) := []
def f90_C (x1 : List (List Int)) (x2 x3 : List Int) (r : (List Int) × Bool) : Prop := CallOK cx 90 (f90_A x1 x2 x3) (f90_K x1 x2 x3) [] (f90_v r) (f90_k x1 x2 x3 r)

def f103_M : List Nat := [41]
noncomputable def f103_p2_H (x1 : List (List Int)) (x2 x3 : List Int) (x4 : Int) : GS := ⟨[(0, (.r (.at (.lst (.list (.int .i64)) x1 false)))), (1, (GL x2)), (2, (GL x3)), (3, (GI x4)), (11, (.r (.at (.int .i64 0)))), (35, (.r (.at (.bool (decide (((List.length x3 : Nat) : Int) > 0))))))], []⟩
noncomputable def f103_p2_x : Int → GExit := fun y0 => .normal
noncomputable def f103_p2_s (x1 : List (List Int)) (x2 x3 : List Int) (x4 : Int) : Int → GS := fun y0 => ⟨[(0, (.r (.at (.lst (.list (.int .i64)) x1 false)))), (1, (GL x2)), (2, (GL x3)), (3, (GI x4)), (11, (GI y0))], []⟩
def f103_p2_P (x1 : List (List Int)) (x2 x3 : List Int) (x4 : Int) (r : Int) : Prop := Ex cx f103_M 64 (part Try.f103 2) (f103_p2_H x1 x2 x3 x4) (f103_p2_x r) (f103_p2_s x1 x2 x3 x4 r)
noncomputable def f103_p4_H (x1 : List (List Int)) (x2 x3 : List Int) (x4 x9 : Int) : GS := ⟨[(0, (.r (.at (.lst (.list (.int .i64)) x1 false)))), (1, (GL x2)), (2, (GL x3)), (3, (GI x4)), (12, (GI x9))], []⟩
noncomputable def f103_p4_x : f103_p4_R → GExit := fun
  | .c0 y0 => .ret
  | .c1 => (.exit 0)
noncomputable def f103_p4_s (x1 : List (List Int)) (x2 x3 : List Int) (x4 : Int) : f103_p4_R → GS := fun
  | .c0 y0 => ⟨[(8, (GL y0))], []⟩
  | .c1 => ⟨[], []⟩
def f103_p4_P (x1 : List (List Int)) (x2 x3 : List Int) (x4 x9 : Int) (r : f103_p4_R) : Prop := Lp cx f103_M 64 (part Try.f103 4) (f103_p4_H x1 x2 x3 x4 x9) (f103_p4_x r) (f103_p4_s x1 x2 x3 x4 r)
noncomputable def f103_v : f103_R → G := fun
  | .c0 => (.r (.at .nils))
  | .c1 y0 => (GL y0)
noncomputable def f103_k0 : f103_R → List (Nat × Blk) := fun
  | .c0 => []
  | .c1 y0 => []
noncomputable def f103_k (x1 : List (List Int)) (x2 x3 : List Int) (x4 : Int) : f103_R → List (Nat × Blk) := fun
  | .c0 => []
  | .c1 y0 => []
noncomputable def f103_A (x1 : List (List Int)) (x2 x3 : List Int) (x4 : Int) : List G := [(.r (.at (.lst (.list (.int .i64)) x1 false))), (GL x2), (GL x3), (GI x4)]
noncomputable def f103_K (x1 : List (List Int)) (x2 x3 : List Int) (x4 : Int) : List (Nat × Blk) := []
def f103_C (x1 : List (List Int)) (x2 x3 : List Int) (x4 : Int) (r : f103_R) : Prop := CallOK cx 103 (f103_A x1 x2 x3 x4) (f103_K x1 x2 x3 x4) [] (f103_v r) (f103_k x1 x2 x3 x4 r)

def f87_M : List Nat := []
noncomputable def f87_p1_H (x1 : List (List Int)) (x2 : List Int) (x3 : Int) : GS := ⟨[(0, (.r (.at (.lst (.list (.int .i64)) x1 false)))), (1, (GL x2)), (5, (GI x3))], []⟩
noncomputable def f87_p1_x : f87_p1_R → GExit := fun
  | .c0 y0 => .ret
  | .c1 => (.exit 0)
noncomputable def f87_p1_s (x1 : List (List Int)) (x2 : List Int) : f87_p1_R → GS := fun
  | .c0 y0 => ⟨[(4, (GL y0))], []⟩
  | .c1 => ⟨[], []⟩
def f87_p1_P (x1 : List (List Int)) (x2 : List Int) (x3 : Int) (r : f87_p1_R) : Prop := Lp cx f87_M 25 (part Try.f87 1) (f87_p1_H x1 x2 x3) (f87_p1_x r) (f87_p1_s x1 x2 r)
noncomputable def f87_v : f87_R → G := fun
  | .c0 y0 => (GL y0)
  | .c1 => (.r (.at .nils))
noncomputable def f87_k0 : f87_R → List (Nat × Blk) := fun
  | .c0 y0 => []
  | .c1 => []
noncomputable def f87_k (x1 : List (List Int)) (x2 : List Int) : f87_R → List (Nat × Blk) := fun
  | .c0 y0 => []
  | .c1 => []
noncomputable def f87_A (x1 : List (List Int)) (x2 : List Int) : List G := [(.r (.at (.lst (.list (.int .i64)) x1 false))), (GL x2)]
noncomputable def f87_K (x1 : List (List Int)) (x2 : List Int) : List (Nat × Blk) := []
def f87_C (x1 : List (List Int)) (x2 : List Int) (r : f87_R) : Prop := CallOK cx 87 (f87_A x1 x2) (f87_K x1 x2) [] (f87_v r) (f87_k x1 x2 r)

def f35_M : List Nat := []
noncomputable def f35_v : ((List Int) × Int) → G := fun (y0, y1) => (.tup [(.at (.lst (.int .i64) y0 false)), (.at (.int .i64 y1))])
noncomputable def f35_k0 : ((List Int) × Int) → List (Nat × Blk) := fun (y0, y1) => []
noncomputable def f35_k (x1 : List (List Int)) (x2 : List Int) : ((List Int) × Int) → List (Nat × Blk) := fun (y0, y1) => []
noncomputable def f35_A (x1 : List (List Int)) (x2 : List Int) : List G := [(.r (.at (.lst (.list (.int .i64)) x1 false))), (GL x2)]
noncomputable def f35_K (x1 : List (List Int)) (x2 : List Int) : List (Nat × Blk) := []
def f35_C (x1 : List (List Int)) (x2 : List Int) (r : (List Int) × Int) : Prop := CallOK cx 35 (f35_A x1 x2) (f35_K x1 x2) [] (f35_v r) (f35_k x1 x2 r)

def f38_M : List Nat := []
noncomputable def f38_p0_H (x1 : List (List Int)) (x2 x3 : List Int) (x4 : Int) : GS := ⟨[(0, (.r (.at (.lst (.list (.int .i64)) x1 false)))), (1, (GL x2)), (2, (GL x3)), (7, (GI x4)), (14, (.r (.at (.bool (x4 == 0)))))], []⟩
noncomputable def f38_p0_x : Int → GExit := fun y0 => .normal
noncomputable def f38_p0_s (x1 : List (List Int)) (x2 x3 : List Int) (x4 : Int) : Int → GS := fun y0 => ⟨[(0, (.r (.at (.lst (.list (.int .i64)) x1 false)))), (1, (GL x2)), (2, (GL x3)), (7, (GI y0))], []⟩
def f38_p0_P (x1 : List (List Int)) (x2 x3 : List Int) (x4 : Int) (r : Int) : Prop := Ex cx f38_M 57 (part Try.f38 0) (f38_p0_H x1 x2 x3 x4) (f38_p0_x r) (f38_p0_s x1 x2 x3 x4 r)
noncomputable def f38_p3_H (x1 : List (List Int)) (x2 x3 : List Int) (x8 : Int) : GS := ⟨[(0, (.r (.at (.lst (.list (.int .i64)) x1 false)))), (1, (GL x2)), (2, (GL x3)), (8, (GI x8))], []⟩
noncomputable def f38_p3_x : f38_p3_R → GExit := fun
  | .c0 => .ret
  | .c1 => (.exit 0)
noncomputable def f38_p3_s (x1 : List (List Int)) (x2 x3 : List Int) : f38_p3_R → GS := fun
  | .c0 => ⟨[(6, (.r (.at (.int .i64 14))))], []⟩
  | .c1 => ⟨[(1, (GL x2)), (2, (GL x3))], []⟩
def f38_p3_P (x1 : List (List Int)) (x2 x3 : List Int) (x8 : Int) (r : f38_p3_R) : Prop := Lp cx f38_M 57 (part Try.f38 3) (f38_p3_H x1 x2 x3 x8) (f38_p3_x r) (f38_p3_s x1 x2 x3 r)
noncomputable def f38_p8_H (x2 x3 : List Int) (x12 : Int) : GS := ⟨[(1, (GL x2)), (2, (GL x3)), (9, (GI x12))], []⟩
noncomputable def f38_p8_x : f38_p8_R → GExit := fun
  | .c0 => .ret
  | .c1 => (.exit 2)
noncomputable def f38_p8_s (x2 x3 : List Int) : f38_p8_R → GS := fun
  | .c0 => ⟨[(6, (.r (.at (.int .i64 14))))], []⟩
  | .c1 => ⟨[], []⟩
def f38_p8_P (x2 x3 : List Int) (x12 : Int) (r : f38_p8_R) : Prop := Lp cx f38_M 57 (part Try.f38 8) (f38_p8_H x2 x3 x12) (f38_p8_x r) (f38_p8_s x2 x3 r)
noncomputable def f38_v : Int → G := fun y0 => (GI y0)
noncomputable def f38_k0 : Int → List (Nat × Blk) := fun y0 => []
noncomputable def f38_k (x1 : List (List Int)) (x2 x3 : List Int) : Int → List (Nat × Blk) := fun y0 => []
noncomputable def f38_A (x1 : List (List Int)) (x2 x3 : List Int) : List G := [(.r (.at (.lst (.list (.int .i64)) x1 false))), (GL x2), (GL x3)]
noncomputable def f38_K (x1 : List (List Int)) (x2 x3 : List Int) : List (Nat × Blk) := []
def f38_C (x1 : List (List Int)) (x2 x3 : List Int) (r : Int) : Prop := CallOK cx 38 (f38_A x1 x2 x3) (f38_K x1 x2 x3) [] (f38_v r) (f38_k x1 x2 x3 r)

def f5_M : List Nat := []
noncomputable def f5_v : Bool → G := fun y0 => (GB y0)
noncomputable def f5_k0 : Bool → List (Nat × Blk) := fun y0 => []
noncomputable def f5_k (x1 : List (List Int)) (x2 x3 : List Int) : Bool → List (Nat × Blk) := fun y0 => []
noncomputable def f5_A (x1 : List (List Int)) (x2 x3 : List Int) : List G := [(.r (.at (.lst (.list (.int .i64)) x1 false))), (GL x2), (GL x3)]
noncomputable def f5_K (x1 : List (List Int)) (x2 x3 : List Int) : List (Nat × Blk) := []
def f5_C (x1 : List (List Int)) (x2 x3 : List Int) (r : Bool) : Prop := CallOK cx 5 (f5_A x1 x2 x3) (f5_K x1 x2 x3) [] (f5_v r) (f5_k x1 x2 x3 r)

end Go.Gh.Sale
