/- Pack3D1: printed by wip/tool/gx.py -/
import Derived.Test.YtkjlgbnbpeijbaaPack3D0
namespace Go.Gh.Pack
set_option linter.unusedVariables false
set_option linter.unusedSimpArgs false
noncomputable section
open Go.Proofs

def f66_M : List Nat := [45]
def f66_p8_1_H (x1 : LI) (x2 : Int) (x3 : List Bool) (x12 : LI) (x13 x15 x16 : Int) (x17 : Bool) : GS := ⟨[(0, (GL x1)), (1, (GI x2)), (5, (.r (.at (.lst .bool x3 false)))), (6, (.r (.at (.sl 45 0 (List.length x12))))), (7, (GI x13)), (8, (GI x15)), (9, (GI x16)), (38, (GB x17))], [(45, (.gr (.int .i64) 3 x12 true))]⟩
def f66_p8_1_x : Int → GExit := fun y0 => .normal
def f66_p8_1_s (x1 : LI) (x2 : Int) (x3 : List Bool) (x12 : LI) (x13 x15 x16 : Int) (x17 : Bool) : Int → GS := fun y0 => ⟨[(0, (GL x1)), (1, (GI x2)), (5, (.r (.at (.lst .bool x3 false)))), (6, (.r (.at (.sl 45 0 (List.length x12))))), (7, (GI x13)), (8, (GI y0)), (9, (GI x16))], [(45, (.gr (.int .i64) 3 x12 true))]⟩
def f66_p8_1_P (x1 : LI) (x2 : Int) (x3 : List Bool) (x12 : LI) (x13 x15 x16 : Int) (x17 : Bool) (r : Int) : Prop := Ex cx f66_M 45 (part Try.f66 8) (f66_p8_1_H x1 x2 x3 x12 x13 x15 x16 x17) (f66_p8_1_x r) (f66_p8_1_s x1 x2 x3 x12 x13 x15 x16 x17 r)
def f66_p5_1_H (x1 : LI) (x2 : Int) (x3 : List Bool) (x12 : LI) (x13 x15 x16 : Int) : GS := ⟨[(0, (GL x1)), (1, (GI x2)), (5, (.r (.at (.lst .bool x3 false)))), (6, (.r (.at (.sl 45 0 (List.length x12))))), (7, (GI x13)), (8, (GI x15)), (9, (GI x16))], [(45, (.gr (.int .i64) 3 x12 true))]⟩
def f66_p5_1_x : Int → GExit := fun y0 => (.exit 2)
def f66_p5_1_s (x1 : LI) (x2 : Int) (x3 : List Bool) (x12 : LI) (x13 : Int) : Int → GS := fun y0 => ⟨[(0, (GL x1)), (1, (GI x2)), (5, (.r (.at (.lst .bool x3 false)))), (6, (.r (.at (.sl 45 0 (List.length x12))))), (7, (GI x13)), (8, (GI y0))], [(45, (.gr (.int .i64) 3 x12 true))]⟩
def f66_p5_1_P (x1 : LI) (x2 : Int) (x3 : List Bool) (x12 : LI) (x13 x15 x16 : Int) (r : Int) : Prop := Lp cx f66_M 45 (part Try.f66 5) (f66_p5_1_H x1 x2 x3 x12 x13 x15 x16) (f66_p5_1_x r) (f66_p5_1_s x1 x2 x3 x12 x13 r)
def f66_p1_H (x1 : LI) (x2 : Int) (x3 : List Bool) (x13 : Int) (x12 : LI) : GS := ⟨[(0, (GL x1)), (1, (GI x2)), (5, (.r (.at (.lst .bool x3 false)))), (6, (.r (.at (.sl 45 0 (List.length x12))))), (7, (GI x13))], [(45, (.gr (.int .i64) 3 x12 true))]⟩
def f66_p1_x : (List Int) → GExit := fun y0 => (.exit 0)
def f66_p1_s (x1 : LI) (x2 : Int) (x3 : List Bool) : (List Int) → GS := fun y0 => ⟨[(6, (.r (.at (.sl 45 0 (List.length y0)))))], [(45, (.gr (.int .i64) 3 y0 true))]⟩
def f66_p1_P (x1 : LI) (x2 : Int) (x3 : List Bool) (x13 : Int) (x12 : LI) (r : (List Int)) : Prop := Lp cx f66_M 45 (part Try.f66 1) (f66_p1_H x1 x2 x3 x13 x12) (f66_p1_x r) (f66_p1_s x1 x2 x3 r)
def f66_v : (List Int) → G := fun y0 => (GL y0)
def f66_k0 : (List Int) → List (Nat × Blk) := fun y0 => []
def f66_k (x1 : LI) (x2 : Int) : (List Int) → List (Nat × Blk) := fun y0 => []
def f66_A (x1 : LI) (x2 : Int) : List G := [(GL x1), (GI x2)]
def f66_K (x1 : LI) (x2 : Int) : List (Nat × Blk) := []
def f66_C (x1 : LI) (x2 : Int) (r : (List Int)) : Prop := CallOK cx 66 (f66_A x1 x2) (f66_K x1 x2) [] (f66_v r) (f66_k x1 x2 r)

def f22_M : List Nat := []
def f22_p0_H (x1 : LI) (x2 x4 : Int) (x3 : Bool) : GS := ⟨[(0, (GL x1)), (1, (GI x2)), (8, (GI x4)), (19, (GB x3))], []⟩
def f22_p0_x : Int → GExit := fun y0 => .normal
def f22_p0_s (x1 : LI) (x2 x4 : Int) (x3 : Bool) : Int → GS := fun y0 => ⟨[(0, (GL x1)), (1, (GI x2)), (8, (GI y0))], []⟩
def f22_p0_P (x1 : LI) (x2 x4 : Int) (x3 : Bool) (r : Int) : Prop := Ex cx f22_M 37 (part Try.f22 0) (f22_p0_H x1 x2 x4 x3) (f22_p0_x r) (f22_p0_s x1 x2 x4 x3 r)
def f22_v : (Int × Int × Int) → G := fun (y0, y1, y2) => (.tup [(.at (.int .i64 y0)), (.at (.int .i64 y1)), (.at (.int .i64 y2))])
def f22_k0 : (Int × Int × Int) → List (Nat × Blk) := fun (y0, y1, y2) => []
def f22_k (x1 : LI) (x2 : Int) : (Int × Int × Int) → List (Nat × Blk) := fun (y0, y1, y2) => []
def f22_A (x1 : LI) (x2 : Int) : List G := [(GL x1), (GI x2)]
def f22_K (x1 : LI) (x2 : Int) : List (Nat × Blk) := []
def f22_C (x1 : LI) (x2 : Int) (r : Int × Int × Int) : Prop := CallOK cx 22 (f22_A x1 x2) (f22_K x1 x2) [] (f22_v r) (f22_k x1 x2 r)

def f25_M : List Nat := []
def f25_p0_H (x1 : LI) (x2 x3 : Int) (x4 : Bool) : GS := ⟨[(0, (GL x1)), (1, (GI x2)), (6, (GI x3)), (18, (.r (.at (.bool (!x4)))))], []⟩
def f25_p0_x : Int → GExit := fun y0 => .normal
def f25_p0_s (x1 : LI) (x2 x3 : Int) (x4 : Bool) : Int → GS := fun y0 => ⟨[(0, (GL x1)), (1, (GI x2)), (6, (GI y0))], []⟩
def f25_p0_P (x1 : LI) (x2 x3 : Int) (x4 : Bool) (r : Int) : Prop := Ex cx f25_M 25 (part Try.f25 0) (f25_p0_H x1 x2 x3 x4) (f25_p0_x r) (f25_p0_s x1 x2 x3 x4 r)
def f25_v : ((List Int) × Int) → G := fun (y0, y1) => (.tup [(.at (.lst (.int .i64) y0 false)), (.at (.int .i64 y1))])
def f25_k0 : ((List Int) × Int) → List (Nat × Blk) := fun (y0, y1) => []
def f25_k (x1 : LI) (x2 : Int) : ((List Int) × Int) → List (Nat × Blk) := fun (y0, y1) => []
def f25_A (x1 : LI) (x2 : Int) : List G := [(GL x1), (GI x2)]
def f25_K (x1 : LI) (x2 : Int) : List (Nat × Blk) := []
def f25_C (x1 : LI) (x2 : Int) (r : (List Int) × Int) : Prop := CallOK cx 25 (f25_A x1 x2) (f25_K x1 x2) [] (f25_v r) (f25_k x1 x2 r)

def f3_M : List Nat := []
def f3_v : Bool → G := fun y0 => (GB y0)
def f3_k0 : Bool → List (Nat × Blk) := fun y0 => []
def f3_k (x1 : LI) (x2 x3 : Int) : Bool → List (Nat × Blk) := fun y0 => []
def f3_A (x1 : LI) (x2 x3 : Int) : List G := [(GL x1), (GI x2), (GI x3)]
def f3_K (x1 : LI) (x2 x3 : Int) : List (Nat × Blk) := []
def f3_C (x1 : LI) (x2 x3 : Int) (r : Bool) : Prop := CallOK cx 3 (f3_A x1 x2 x3) (f3_K x1 x2 x3) [] (f3_v r) (f3_k x1 x2 x3 r)

end
end Go.Gh.Pack
