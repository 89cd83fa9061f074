/- Hat13D0: printed by wip/tool/gx.py -/
import Derived.Test.YtmkejpdmaclkpaaDoorHatA
import Derived.Test.YtmkejpdmaclkpaaDoorGiC
import Derived.Test.YtmkejpdmaclkpaaDoorHat13N0
namespace Go.Gh.Hat
set_option linter.unusedVariables false
set_option linter.unusedSimpArgs false
open Go.Proofs

def f74_M : List Nat := []
noncomputable def f74_v : Bool → G := fun y0 => (.r (.at (.bool y0)))
noncomputable def f74_k0 : Bool → List (Nat × Blk) := fun y0 => []
noncomputable def f74_k (x1 : Int) : Bool → List (Nat × Blk) := fun y0 => []
noncomputable def f74_A (x1 : Int) : List G := [(.r (.at (.int .i64 x1)))]
noncomputable def f74_K (x1 : Int) : List (Nat × Blk) := []
def f74_C (x1 : Int) (r : Bool) : Prop := CallOK cx 74 (f74_A x1) (f74_K x1) [] (f74_v r) (f74_k x1 r)

def f64_M : List Nat := []
noncomputable def f64_v : Int → G := fun y0 => (.r (.at (.int .i64 y0)))
noncomputable def f64_k0 : Int → List (Nat × Blk) := fun y0 => []
noncomputable def f64_k (x1 : Int) (x2 : Int) : Int → List (Nat × Blk) := fun y0 => []
noncomputable def f64_A (x1 : Int) (x2 : Int) : List G := [(.r (.at (.int .i64 x1))), (.r (.at (.int .i64 x2)))]
noncomputable def f64_K (x1 : Int) (x2 : Int) : List (Nat × Blk) := []
def f64_C (x1 : Int) (x2 : Int) (r : Int) : Prop := CallOK cx 64 (f64_A x1 x2) (f64_K x1 x2) [] (f64_v r) (f64_k x1 x2 r)

def f40_M : List Nat := []
noncomputable def f40_v : (Int × Int) → G := fun (y0, y1) => (.tup [(.at (.int .i64 y0)), (.at (.int .i64 y1))])
noncomputable def f40_k0 : (Int × Int) → List (Nat × Blk) := fun (y0, y1) => []
noncomputable def f40_k (x1 : Int) (x2 : Int) (x3 : Int) : (Int × Int) → List (Nat × Blk) := fun (y0, y1) => []
noncomputable def f40_A (x1 : Int) (x2 : Int) (x3 : Int) : List G := [(.r (.at (.int .i64 x1))), (.r (.at (.int .i64 x2))), (.r (.at (.int .i64 x3)))]
noncomputable def f40_K (x1 : Int) (x2 : Int) (x3 : Int) : List (Nat × Blk) := []
def f40_C (x1 : Int) (x2 : Int) (x3 : Int) (r : Int × Int) : Prop := CallOK cx 40 (f40_A x1 x2 x3) (f40_K x1 x2 x3) [] (f40_v r) (f40_k x1 x2 x3 r)

def f42_M : List Nat := []
noncomputable def f42_v : (List Int) → G := fun y0 => (.r (.at (.lst (.int .i64) y0 false)))
noncomputable def f42_k0 : (List Int) → List (Nat × Blk) := fun y0 => []
noncomputable def f42_k (x1 : List Int) : (List Int) → List (Nat × Blk) := fun y0 => []
noncomputable def f42_A (x1 : List Int) : List G := [(.r (.at (.lst (.int .i64) x1 false)))]
noncomputable def f42_K (x1 : List Int) : List (Nat × Blk) := []
def f42_C (x1 : List Int) (r : (List Int)) : Prop := CallOK cx 42 (f42_A x1) (f42_K x1) [] (f42_v r) (f42_k x1 r)

def f51_M : List Nat := []
noncomputable def f51_v : (List (List Int)) → G := fun y0 => (.r (.at (.lst (.list (.int .i64)) y0 false)))
noncomputable def f51_k0 : (List (List Int)) → List (Nat × Blk) := fun y0 => []
noncomputable def f51_k (x1 : List (List Int)) : (List (List Int)) → List (Nat × Blk) := fun y0 => []
noncomputable def f51_A (x1 : List (List Int)) : List G := [(.r (.at (.lst (.list (.int .i64)) x1 false)))]
noncomputable def f51_K (x1 : List (List Int)) : List (Nat × Blk) := []
def f51_C (x1 : List (List Int)) (r : (List (List Int))) : Prop := CallOK cx 51 (f51_A x1) (f51_K x1) [] (f51_v r) (f51_k x1 r)

def f58_M : List Nat := [1]
noncomputable def f58_v : (Int × (List (List Int))) → G := fun (y0, y1) => (.r (.agg [.cell (.int .i64 y0), .cell (.lst (.list (.int .i64)) y1 false)]))
noncomputable def f58_k0 : (Int × (List (List Int))) → List (Nat × Blk) := fun (y0, y1) => []
noncomputable def f58_k : (Int × (List (List Int))) → List (Nat × Blk) := fun (y0, y1) => []
noncomputable def f58_A : List G := []
noncomputable def f58_K : List (Nat × Blk) := []
def f58_C (r : Int × (List (List Int))) : Prop := CallOK cx 58 (f58_A) (f58_K) [] (f58_v r) (f58_k r)

def f92_M : List Nat := []
noncomputable def f92_v : Bool → G := fun y0 => (.r (.at (.bool y0)))
noncomputable def f92_k0 : Bool → List (Nat × Blk) := fun y0 => []
noncomputable def f92_k (x1 : Int) : Bool → List (Nat × Blk) := fun y0 => []
noncomputable def f92_A (x1 : Int) : List G := [(.r (.at (.int .i64 x1)))]
noncomputable def f92_K (x1 : Int) : List (Nat × Blk) := []
def f92_C (x1 : Int) (r : Bool) : Prop := CallOK cx 92 (f92_A x1) (f92_K x1) [] (f92_v r) (f92_k x1 r)

def f108_M : List Nat := []
noncomputable def f108_p1_H (x1 : List Int) (x2 : Int) : GS := ⟨[(0, (.r (.at (.lst (.int .i64) x1 false)))), (1, (.r (.at (.fn 92)))), (7, (.r (.at (.int .i64 ((List.length x1 : Nat) : Int))))), (8, (.r (.at (.int .i64 x2))))], []⟩
noncomputable def f108_p1_x : f108_p1_R → GExit := fun
  | .c0 y0 => .ret
  | .c1 => (.exit 0)
noncomputable def f108_p1_s (x1 : List Int) : f108_p1_R → GS := fun
  | .c0 y0 => ⟨[(4, (.r (.at (.int .i64 y0))))], []⟩
  | .c1 => ⟨[], []⟩
def f108_p1_P (x1 : List Int) (x2 : Int) (r : f108_p1_R) : Prop := Lp cx f108_M 19 (part Tryd.f108 1) (f108_p1_H x1 x2) (f108_p1_x r) (f108_p1_s x1 r)
noncomputable def f108_v : Int → G := fun y0 => (.r (.at (.int .i64 y0)))
noncomputable def f108_k0 : Int → List (Nat × Blk) := fun y0 => []
noncomputable def f108_k (x1 : List Int) : Int → List (Nat × Blk) := fun y0 => []
noncomputable def f108_A (x1 : List Int) : List G := [(.r (.at (.lst (.int .i64) x1 false))), (.r (.at (.fn 92)))]
noncomputable def f108_K (x1 : List Int) : List (Nat × Blk) := []
def f108_C (x1 : List Int) (r : Int) : Prop := CallOK cx 108 (f108_A x1) (f108_K x1) [] (f108_v r) (f108_k x1 r)

def f91_M : List Nat := []
noncomputable def f91_v : Bool → G := fun y0 => (.r (.at (.bool y0)))
noncomputable def f91_k0 : Bool → List (Nat × Blk) := fun y0 => []
noncomputable def f91_k (x1 : List Int) : Bool → List (Nat × Blk) := fun y0 => []
noncomputable def f91_A (x1 : List Int) : List G := [(.r (.at (.lst (.int .i64) x1 false))), (.r (.at (.fn 92)))]
noncomputable def f91_K (x1 : List Int) : List (Nat × Blk) := []
def f91_C (x1 : List Int) (r : Bool) : Prop := CallOK cx 91 (f91_A x1) (f91_K x1) [] (f91_v r) (f91_k x1 r)

def f78_M : List Nat := [3, 4, 5]
noncomputable def f78_p4_H (x2 : List (List Int)) (x1 : Int) (x7 : Int) (x8 : Int) (x9 : Int) : GS := ⟨[(2, (.r (.at (.ptr 4 0 0)))), (4, (.r (.at (.ptr 5 0 0)))), (28, (.r (.at (.lst (.list (.int .i64)) x2 false)))), (29, (.r (.at (.int .i64 ((List.length x2 : Nat) : Int))))), (30, (.r (.at (.int .i64 x7))))], [(4, (.var [.cell (.int .i64 x8), .cell .nils, .cell (.int .i64 x9)])), (5, (.var [.cell (.int .i64 x1), .cell (.lst (.list (.int .i64)) x2 false), .cell (.int .i64 (iShl .i64 1 x1))]))]⟩
noncomputable def f78_p4_x : f78_p4_R → GExit := fun
  | .c0 y0 => .ret
  | .c1 y0 y1 => (.exit 1)
noncomputable def f78_p4_s (x2 : List (List Int)) (x1 : Int) : f78_p4_R → GS := fun
  | .c0 y0 => ⟨[(2, (.r (.at (.ptr 4 0 0)))), (3, (.r (.at (.int .i64 y0))))], [(4, (.var [.cell (.int .i64 0), .cell .nils, .cell (.int .i64 0)]))]⟩
  | .c1 y0 y1 => ⟨[(2, (.r (.at (.ptr 4 0 0)))), (4, (.r (.at (.ptr 5 0 0))))], [(4, (.var [.cell (.int .i64 y0), .cell .nils, .cell (.int .i64 y1)])), (5, (.var [.cell (.int .i64 x1), .cell (.lst (.list (.int .i64)) x2 false), .cell (.int .i64 (iShl .i64 1 x1))]))]⟩
def f78_p4_P (x2 : List (List Int)) (x1 : Int) (x7 : Int) (x8 : Int) (x9 : Int) (r : f78_p4_R) : Prop := Lp cx f78_M 48 (part Tryd.f78 4) (f78_p4_H x2 x1 x7 x8 x9) (f78_p4_x r) (f78_p4_s x2 x1 r)
noncomputable def f78_v : (Int × (List (List Int)) × Int × Int) → G := fun (y0, y1, y2, y3) => (.tup [(.agg [.cell (.int .i64 y0), .cell (.lst (.list (.int .i64)) y1 false), .cell (.int .i64 y2)]), (.at (.int .i64 y3))])
noncomputable def f78_k0 : (Int × (List (List Int)) × Int × Int) → List (Nat × Blk) := fun (y0, y1, y2, y3) => []
noncomputable def f78_k (x1 : Int) (x2 : List (List Int)) : (Int × (List (List Int)) × Int × Int) → List (Nat × Blk) := fun (y0, y1, y2, y3) => []
noncomputable def f78_A (x1 : Int) (x2 : List (List Int)) : List G := [(.r (.agg [.cell (.int .i64 x1), .cell (.lst (.list (.int .i64)) x2 false)]))]
noncomputable def f78_K (x1 : Int) (x2 : List (List Int)) : List (Nat × Blk) := []
def f78_C (x1 : Int) (x2 : List (List Int)) (r : Int × (List (List Int)) × Int × Int) : Prop := CallOK cx 78 (f78_A x1 x2) (f78_K x1 x2) [] (f78_v r) (f78_k x1 x2 r)

def f39_M : List Nat := [2, 6, 7]
noncomputable def f39_p4_H (x3 : Int) (x5 : List (List Int)) (x13 : Int) (x12 : List Int) : GS := ⟨[(1, (.r (.at (.int .i64 x3)))), (8, (.r (.at (.sl 7 0 (List.length x12))))), (31, (.r (.at (.lst (.list (.int .i64)) x5 false)))), (32, (.r (.at (.int .i64 ((List.length x5 : Nat) : Int))))), (33, (.r (.at (.int .i64 x13))))], [(7, (.gr (.int .i64) 3 x12 true))]⟩
noncomputable def f39_p4_x : (List Int) → GExit := fun y0 => (.exit 1)
noncomputable def f39_p4_s (x3 : Int) (x5 : List (List Int)) : (List Int) → GS := fun y0 => ⟨[(8, (.r (.at (.sl 7 0 (List.length y0)))))], [(7, (.gr (.int .i64) 3 y0 true))]⟩
def f39_p4_P (x3 : Int) (x5 : List (List Int)) (x13 : Int) (x12 : List Int) (r : (List Int)) : Prop := Lp cx f39_M 49 (part Tryd.f39 4) (f39_p4_H x3 x5 x13 x12) (f39_p4_x r) (f39_p4_s x3 x5 r)
noncomputable def f39_v : ((List Int) × Int) → G := fun (y0, y1) => (.tup [(.at (.lst (.int .i64) y0 false)), (.at (.int .i64 y1))])
noncomputable def f39_k0 : ((List Int) × Int) → List (Nat × Blk) := fun (y0, y1) => []
noncomputable def f39_k (x1 : Int) (x2 : List (List Int)) (x3 : Int) : ((List Int) × Int) → List (Nat × Blk) := fun (y0, y1) => []
noncomputable def f39_A (x1 : Int) (x2 : List (List Int)) (x3 : Int) : List G := [(.r (.agg [.cell (.int .i64 x1), .cell (.lst (.list (.int .i64)) x2 false)])), (.r (.at (.int .i64 x3)))]
noncomputable def f39_K (x1 : Int) (x2 : List (List Int)) (x3 : Int) : List (Nat × Blk) := []
def f39_C (x1 : Int) (x2 : List (List Int)) (x3 : Int) (r : (List Int) × Int) : Prop := CallOK cx 39 (f39_A x1 x2 x3) (f39_K x1 x2 x3) [] (f39_v r) (f39_k x1 x2 x3 r)

def f79_M : List Nat := [10]
noncomputable def f79_p6_H (x4 : Int) (x5 : Int) (x6 : Int) (x1 : Int) (x7 : Int) (x10 : Int) (x2 : List (List Int)) (x3 : Int) : GS := ⟨[(1, (.r (.at (.int .i64 x4)))), (2, (.r (.at (.ptr 10 0 0)))), (4, (.r (.at (.int .i64 x5)))), (5, (.r (.at (.int .i64 x6)))), (9, (.r (.at (.int .i64 x1)))), (10, (.r (.at (.int .i64 x7)))), (28, (.r (.at (.bool (x10 == (iAnd .i64 (iShr .i64 x4 x7) 1))))))], [(10, (.var [.cell (.int .i64 x1), .cell (.lst (.list (.int .i64)) x2 false), .cell (.int .i64 x3)]))]⟩
noncomputable def f79_p6_x : (Int × Int) → GExit := fun (y0, y1) => .normal
noncomputable def f79_p6_s (x4 : Int) (x5 : Int) (x6 : Int) (x1 : Int) (x7 : Int) (x10 : Int) (x2 : List (List Int)) (x3 : Int) : (Int × Int) → GS := fun (y0, y1) => ⟨[(1, (.r (.at (.int .i64 x4)))), (2, (.r (.at (.ptr 10 0 0)))), (4, (.r (.at (.int .i64 y0)))), (5, (.r (.at (.int .i64 y1)))), (9, (.r (.at (.int .i64 x1)))), (10, (.r (.at (.int .i64 x7))))], [(10, (.var [.cell (.int .i64 x1), .cell (.lst (.list (.int .i64)) x2 false), .cell (.int .i64 x3)]))]⟩
def f79_p6_P (x4 : Int) (x5 : Int) (x6 : Int) (x1 : Int) (x7 : Int) (x10 : Int) (x2 : List (List Int)) (x3 : Int) (r : Int × Int) : Prop := Ex cx f79_M 39 (part Tryd.f79 6) (f79_p6_H x4 x5 x6 x1 x7 x10 x2 x3) (f79_p6_x r) (f79_p6_s x4 x5 x6 x1 x7 x10 x2 x3 r)
noncomputable def f79_p5_H (x4 : Int) (x5 : Int) (x6 : Int) (x7 : Int) (x1 : Int) (x10 : Int) (x2 : List (List Int)) (x3 : Int) : GS := ⟨[(1, (.r (.at (.int .i64 x4)))), (2, (.r (.at (.ptr 10 0 0)))), (4, (.r (.at (.int .i64 x5)))), (5, (.r (.at (.int .i64 x6)))), (6, (.r (.at (.int .i64 x7)))), (9, (.r (.at (.int .i64 x1)))), (10, (.r (.at (.int .i64 x7)))), (23, (.r (.at (.int .i64 x10)))), (26, (.r (.at (.bool (x10 == 2)))))], [(10, (.var [.cell (.int .i64 x1), .cell (.lst (.list (.int .i64)) x2 false), .cell (.int .i64 x3)]))]⟩
noncomputable def f79_p5_x : (Int × Int) → GExit := fun (y0, y1) => .normal
noncomputable def f79_p5_s (x4 : Int) (x5 : Int) (x6 : Int) (x7 : Int) (x1 : Int) (x10 : Int) (x2 : List (List Int)) (x3 : Int) : (Int × Int) → GS := fun (y0, y1) => ⟨[(1, (.r (.at (.int .i64 x4)))), (2, (.r (.at (.ptr 10 0 0)))), (4, (.r (.at (.int .i64 y0)))), (5, (.r (.at (.int .i64 y1)))), (9, (.r (.at (.int .i64 x1)))), (10, (.r (.at (.int .i64 x7))))], [(10, (.var [.cell (.int .i64 x1), .cell (.lst (.list (.int .i64)) x2 false), .cell (.int .i64 x3)]))]⟩
def f79_p5_P (x4 : Int) (x5 : Int) (x6 : Int) (x7 : Int) (x1 : Int) (x10 : Int) (x2 : List (List Int)) (x3 : Int) (r : Int × Int) : Prop := Ex cx f79_M 39 (part Tryd.f79 5) (f79_p5_H x4 x5 x6 x7 x1 x10 x2 x3) (f79_p5_x r) (f79_p5_s x4 x5 x6 x7 x1 x10 x2 x3 r)
noncomputable def f79_p1_H (x4 : Int) (x1 : Int) (x2 : List (List Int)) (x3 : Int) (x5 : Int) (x6 : Int) (x7 : Int) : GS := ⟨[(1, (.r (.at (.int .i64 x4)))), (2, (.r (.at (.ptr 10 0 0)))), (4, (.r (.at (.int .i64 x5)))), (5, (.r (.at (.int .i64 x6)))), (9, (.r (.at (.int .i64 x1)))), (10, (.r (.at (.int .i64 x7))))], [(10, (.var [.cell (.int .i64 x1), .cell (.lst (.list (.int .i64)) x2 false), .cell (.int .i64 x3)]))]⟩
noncomputable def f79_p1_x : (Int × Int) → GExit := fun (y0, y1) => (.exit 0)
noncomputable def f79_p1_s (x4 : Int) (x1 : Int) (x2 : List (List Int)) (x3 : Int) : (Int × Int) → GS := fun (y0, y1) => ⟨[(4, (.r (.at (.int .i64 y0)))), (5, (.r (.at (.int .i64 y1))))], []⟩
def f79_p1_P (x4 : Int) (x1 : Int) (x2 : List (List Int)) (x3 : Int) (x5 : Int) (x6 : Int) (x7 : Int) (r : Int × Int) : Prop := Lp cx f79_M 39 (part Tryd.f79 1) (f79_p1_H x4 x1 x2 x3 x5 x6 x7) (f79_p1_x r) (f79_p1_s x4 x1 x2 x3 r)
noncomputable def f79_v : (Int × Int) → G := fun (y0, y1) => (.tup [(.at (.int .i64 y0)), (.at (.int .i64 y1))])
noncomputable def f79_k0 : (Int × Int) → List (Nat × Blk) := fun (y0, y1) => []
noncomputable def f79_k (x1 : Int) (x2 : List (List Int)) (x3 : Int) (x4 : Int) : (Int × Int) → List (Nat × Blk) := fun (y0, y1) => []
noncomputable def f79_A (x1 : Int) (x2 : List (List Int)) (x3 : Int) (x4 : Int) : List G := [(.r (.agg [.cell (.int .i64 x1), .cell (.lst (.list (.int .i64)) x2 false), .cell (.int .i64 x3)])), (.r (.at (.int .i64 x4)))]
noncomputable def f79_K (x1 : Int) (x2 : List (List Int)) (x3 : Int) (x4 : Int) : List (Nat × Blk) := []
def f79_C (x1 : Int) (x2 : List (List Int)) (x3 : Int) (x4 : Int) (r : Int × Int) : Prop := CallOK cx 79 (f79_A x1 x2 x3 x4) (f79_K x1 x2 x3 x4) [] (f79_v r) (f79_k x1 x2 x3 x4 r)

def f32_M : List Nat := [8, 9, 11]
noncomputable def f32_p5_1_H (x10 : List Int) (x11 : Int) (x5 : Int) (x13 : Int) (x3 : Int) (x4 : List (List Int)) : GS := ⟨[(4, (.r (.at (.ptr 9 0 0)))), (6, (.r (.at (.sl 11 0 (List.length x10))))), (7, (.r (.at (.int .i64 x11)))), (19, (.r (.at (.int .i64 x5)))), (20, (.r (.at (.int .i64 x11)))), (34, (.r (.at (.bool (x13 == 0)))))], [(9, (.var [.cell (.int .i64 x3), .cell (.lst (.list (.int .i64)) x4 false), .cell (.int .i64 x5)])), (11, (.gr (.int .i64) 3 x10 true))]⟩
noncomputable def f32_p5_1_x : (List Int) → GExit := fun y0 => .normal
noncomputable def f32_p5_1_s (x10 : List Int) (x11 : Int) (x5 : Int) (x13 : Int) (x3 : Int) (x4 : List (List Int)) : (List Int) → GS := fun y0 => ⟨[(4, (.r (.at (.ptr 9 0 0)))), (6, (.r (.at (.sl 11 0 (List.length y0))))), (19, (.r (.at (.int .i64 x5)))), (20, (.r (.at (.int .i64 x11))))], [(9, (.var [.cell (.int .i64 x3), .cell (.lst (.list (.int .i64)) x4 false), .cell (.int .i64 x5)])), (11, (.gr (.int .i64) 3 y0 true))]⟩
def f32_p5_1_P (x10 : List Int) (x11 : Int) (x5 : Int) (x13 : Int) (x3 : Int) (x4 : List (List Int)) (r : (List Int)) : Prop := Ex cx f32_M 41 (part Tryd.f32 5) (f32_p5_1_H x10 x11 x5 x13 x3 x4) (f32_p5_1_x r) (f32_p5_1_s x10 x11 x5 x13 x3 x4 r)
noncomputable def f32_p2_H (x5 : Int) (x3 : Int) (x4 : List (List Int)) (x11 : Int) (x10 : List Int) : GS := ⟨[(4, (.r (.at (.ptr 9 0 0)))), (6, (.r (.at (.sl 11 0 (List.length x10))))), (19, (.r (.at (.int .i64 x5)))), (20, (.r (.at (.int .i64 x11))))], [(9, (.var [.cell (.int .i64 x3), .cell (.lst (.list (.int .i64)) x4 false), .cell (.int .i64 x5)])), (11, (.gr (.int .i64) 3 x10 true))]⟩
noncomputable def f32_p2_x : (List Int) → GExit := fun y0 => (.exit 0)
noncomputable def f32_p2_s (x5 : Int) (x3 : Int) (x4 : List (List Int)) : (List Int) → GS := fun y0 => ⟨[(6, (.r (.at (.sl 11 0 (List.length y0)))))], [(11, (.gr (.int .i64) 3 y0 true))]⟩
def f32_p2_P (x5 : Int) (x3 : Int) (x4 : List (List Int)) (x11 : Int) (x10 : List Int) (r : (List Int)) : Prop := Lp cx f32_M 41 (part Tryd.f32 2) (f32_p2_H x5 x3 x4 x11 x10) (f32_p2_x r) (f32_p2_s x5 x3 x4 r)
noncomputable def f32_v : ((List Int) × Int) → G := fun (y0, y1) => (.tup [(.at (.lst (.int .i64) y0 false)), (.at (.int .i64 y1))])
noncomputable def f32_k0 : ((List Int) × Int) → List (Nat × Blk) := fun (y0, y1) => []
noncomputable def f32_k (x1 : Int) (x2 : List (List Int)) : ((List Int) × Int) → List (Nat × Blk) := fun (y0, y1) => []
noncomputable def f32_A (x1 : Int) (x2 : List (List Int)) : List G := [(.r (.agg [.cell (.int .i64 x1), .cell (.lst (.list (.int .i64)) x2 false)]))]
noncomputable def f32_K (x1 : Int) (x2 : List (List Int)) : List (Nat × Blk) := []
def f32_C (x1 : Int) (x2 : List (List Int)) (r : (List Int) × Int) : Prop := CallOK cx 32 (f32_A x1 x2) (f32_K x1 x2) [] (f32_v r) (f32_k x1 x2 r)

def f37_M : List Nat := [12, 13]
noncomputable def f37_p2_H (x5 : Int) (x3 : Int) (x4 : List (List Int)) (x7 : Int) (x8 : Int) (x9 : Int) : GS := ⟨[(2, (.r (.at (.int .i64 x7)))), (3, (.r (.at (.int .i64 x8)))), (5, (.r (.at (.ptr 13 0 0)))), (18, (.r (.at (.int .i64 x5)))), (19, (.r (.at (.int .i64 x9))))], [(13, (.var [.cell (.int .i64 x3), .cell (.lst (.list (.int .i64)) x4 false), .cell (.int .i64 x5)]))]⟩
noncomputable def f37_p2_x : (Int × Int) → GExit := fun (y0, y1) => (.exit 0)
noncomputable def f37_p2_s (x5 : Int) (x3 : Int) (x4 : List (List Int)) : (Int × Int) → GS := fun (y0, y1) => ⟨[(2, (.r (.at (.int .i64 y0)))), (3, (.r (.at (.int .i64 y1))))], []⟩
def f37_p2_P (x5 : Int) (x3 : Int) (x4 : List (List Int)) (x7 : Int) (x8 : Int) (x9 : Int) (r : Int × Int) : Prop := Lp cx f37_M 37 (part Tryd.f37 2) (f37_p2_H x5 x3 x4 x7 x8 x9) (f37_p2_x r) (f37_p2_s x5 x3 x4 r)
noncomputable def f37_v : (Int × Int × Int) → G := fun (y0, y1, y2) => (.tup [(.at (.int .i64 y0)), (.at (.int .i64 y1)), (.at (.int .i64 y2))])
noncomputable def f37_k0 : (Int × Int × Int) → List (Nat × Blk) := fun (y0, y1, y2) => []
noncomputable def f37_k (x1 : Int) (x2 : List (List Int)) : (Int × Int × Int) → List (Nat × Blk) := fun (y0, y1, y2) => []
noncomputable def f37_A (x1 : Int) (x2 : List (List Int)) : List G := [(.r (.agg [.cell (.int .i64 x1), .cell (.lst (.list (.int .i64)) x2 false)]))]
noncomputable def f37_K (x1 : Int) (x2 : List (List Int)) : List (Nat × Blk) := []
def f37_C (x1 : Int) (x2 : List (List Int)) (r : Int × Int × Int) : Prop := CallOK cx 37 (f37_A x1 x2) (f37_K x1 x2) [] (f37_v r) (f37_k x1 x2 r)

def f59_M : List Nat := [14]
noncomputable def f59_p9_1_H (x1 : Int) (x17 : Int) (x2 : List Int) (x16 : Int) (x22 : Int) (x21 : List Int) : GS := ⟨[(0, (.r (.at (.int .i64 x1)))), (6, (.r (.at (.sl 14 0 (Int.toNat (iShl .i64 1 x1)))))), (7, (.r (.at (.int .i64 x17)))), (9, (.r (.at (.int .i64 x17)))), (17, (.r (.at (.lst (.int .i64) x2 false)))), (18, (.r (.at (.int .i64 ((List.length x2 : Nat) : Int))))), (19, (.r (.at (.int .i64 x16)))), (43, (.r (.at (.int .i64 x1)))), (44, (.r (.at (.int .i64 x22))))], [(14, (.gr (.int .i64) 3 x21 true))]⟩
noncomputable def f59_p9_1_x : (List Int) → GExit := fun y0 => (.exit 3)
noncomputable def f59_p9_1_s (x1 : Int) (x17 : Int) (x2 : List Int) (x16 : Int) : (List Int) → GS := fun y0 => ⟨[(0, (.r (.at (.int .i64 x1)))), (6, (.r (.at (.sl 14 0 (Int.toNat (iShl .i64 1 x1)))))), (7, (.r (.at (.int .i64 x17)))), (17, (.r (.at (.lst (.int .i64) x2 false)))), (18, (.r (.at (.int .i64 ((List.length x2 : Nat) : Int))))), (19, (.r (.at (.int .i64 x16))))], [(14, (.gr (.int .i64) 3 y0 true))]⟩
def f59_p9_1_P (x1 : Int) (x17 : Int) (x2 : List Int) (x16 : Int) (x22 : Int) (x21 : List Int) (r : (List Int)) : Prop := Lp cx f59_M 59 (part Tryd.f59 9) (f59_p9_1_H x1 x17 x2 x16 x22 x21) (f59_p9_1_x r) (f59_p9_1_s x1 x17 x2 x16 r)
noncomputable def f59_p2_H (x1 : Int) (x2 : List Int) (x15 : Int) (x16 : Int) (x14 : List Int) : GS := ⟨[(0, (.r (.at (.int .i64 x1)))), (6, (.r (.at (.sl 14 0 (Int.toNat (iShl .i64 1 x1)))))), (7, (.r (.at (.int .i64 x15)))), (17, (.r (.at (.lst (.int .i64) x2 false)))), (18, (.r (.at (.int .i64 ((List.length x2 : Nat) : Int))))), (19, (.r (.at (.int .i64 x16))))], [(14, (.gr (.int .i64) 3 x14 true))]⟩
noncomputable def f59_p2_x : f59_p2_R → GExit := fun
  | .c0 y0 => .ret
  | .c1 y0 => (.exit 0)
noncomputable def f59_p2_s (x1 : Int) (x2 : List Int) : f59_p2_R → GS := fun
  | .c0 y0 => ⟨[(4, (.r (.at .nils))), (5, (.r (.at (.int .i64 y0))))], []⟩
  | .c1 y0 => ⟨[(6, (.r (.at (.sl 14 0 (Int.toNat (iShl .i64 1 x1))))))], [(14, (.gr (.int .i64) 3 y0 true))]⟩
def f59_p2_P (x1 : Int) (x2 : List Int) (x15 : Int) (x16 : Int) (x14 : List Int) (r : f59_p2_R) : Prop := Lp cx f59_M 59 (part Tryd.f59 2) (f59_p2_H x1 x2 x15 x16 x14) (f59_p2_x r) (f59_p2_s x1 x2 r)
noncomputable def f59_v : ((List Int) × Int) → G := fun (y0, y1) => (.tup [(.at (.lst (.int .i64) y0 false)), (.at (.int .i64 y1))])
noncomputable def f59_k0 : ((List Int) × Int) → List (Nat × Blk) := fun (y0, y1) => []
noncomputable def f59_k (x1 : Int) (x2 : List Int) : ((List Int) × Int) → List (Nat × Blk) := fun (y0, y1) => []
noncomputable def f59_A (x1 : Int) (x2 : List Int) : List G := [(.r (.at (.int .i64 x1))), (.r (.at (.lst (.int .i64) x2 false)))]
noncomputable def f59_K (x1 : Int) (x2 : List Int) : List (Nat × Blk) := []
def f59_C (x1 : Int) (x2 : List Int) (r : (List Int) × Int) : Prop := CallOK cx 59 (f59_A x1 x2) (f59_K x1 x2) [] (f59_v r) (f59_k x1 x2 r)

def f15_M : List Nat := []
noncomputable def f15_v : ((List Int) × Int) → G := fun (y0, y1) => (.tup [(.at (.lst (.int .i64) y0 false)), (.at (.int .i64 y1))])
noncomputable def f15_k0 : ((List Int) × Int) → List (Nat × Blk) := fun (y0, y1) => []
noncomputable def f15_k (x1 : Int) (x2 : List Int) : ((List Int) × Int) → List (Nat × Blk) := fun (y0, y1) => []
noncomputable def f15_A (x1 : Int) (x2 : List Int) : List G := [(.r (.at (.int .i64 x1))), (.r (.at (.lst (.int .i64) x2 false)))]
noncomputable def f15_K (x1 : Int) (x2 : List Int) : List (Nat × Blk) := []
def f15_C (x1 : Int) (x2 : List Int) (r : (List Int) × Int) : Prop := CallOK cx 15 (f15_A x1 x2) (f15_K x1 x2) [] (f15_v r) (f15_k x1 x2 r)

def f17_M : List Nat := [15]
noncomputable def f17_p5_1_H (x7 : List Int) (x8 : Int) (x3 : List Int) (x9 : Int) : GS := ⟨[(8, (.r (.at (.sl 15 0 (List.length x7))))), (9, (.r (.at (.int .i64 x8)))), (20, (.r (.at (.lst (.int .i64) x3 false)))), (21, (.r (.at (.int .i64 ((List.length x3 : Nat) : Int))))), (22, (.r (.at (.int .i64 x8)))), (28, (.r (.at (.bool (x9 == 0)))))], [(15, (.gr (.int .i64) 3 x7 true))]⟩
noncomputable def f17_p5_1_x : (List Int) → GExit := fun y0 => .normal
noncomputable def f17_p5_1_s (x7 : List Int) (x8 : Int) (x3 : List Int) (x9 : Int) : (List Int) → GS := fun y0 => ⟨[(8, (.r (.at (.sl 15 0 (List.length y0))))), (20, (.r (.at (.lst (.int .i64) x3 false)))), (21, (.r (.at (.int .i64 ((List.length x3 : Nat) : Int))))), (22, (.r (.at (.int .i64 x8))))], [(15, (.gr (.int .i64) 3 y0 true))]⟩
def f17_p5_1_P (x7 : List Int) (x8 : Int) (x3 : List Int) (x9 : Int) (r : (List Int)) : Prop := Ex cx f17_M 35 (part Tryd.f17 5) (f17_p5_1_H x7 x8 x3 x9) (f17_p5_1_x r) (f17_p5_1_s x7 x8 x3 x9 r)
noncomputable def f17_p2_H (x3 : List Int) (x8 : Int) (x7 : List Int) : GS := ⟨[(8, (.r (.at (.sl 15 0 (List.length x7))))), (20, (.r (.at (.lst (.int .i64) x3 false)))), (21, (.r (.at (.int .i64 ((List.length x3 : Nat) : Int))))), (22, (.r (.at (.int .i64 x8))))], [(15, (.gr (.int .i64) 3 x7 true))]⟩
noncomputable def f17_p2_x : (List Int) → GExit := fun y0 => (.exit 0)
noncomputable def f17_p2_s (x3 : List Int) : (List Int) → GS := fun y0 => ⟨[(8, (.r (.at (.sl 15 0 (List.length y0)))))], [(15, (.gr (.int .i64) 3 y0 true))]⟩
def f17_p2_P (x3 : List Int) (x8 : Int) (x7 : List Int) (r : (List Int)) : Prop := Lp cx f17_M 35 (part Tryd.f17 2) (f17_p2_H x3 x8 x7) (f17_p2_x r) (f17_p2_s x3 r)
noncomputable def f17_v : ((List Int) × Int) → G := fun (y0, y1) => (.tup [(.at (.lst (.int .i64) y0 false)), (.at (.int .i64 y1))])
noncomputable def f17_k0 : ((List Int) × Int) → List (Nat × Blk) := fun (y0, y1) => []
noncomputable def f17_k (x1 : Int) (x2 : List Int) : ((List Int) × Int) → List (Nat × Blk) := fun (y0, y1) => []
noncomputable def f17_A (x1 : Int) (x2 : List Int) : List G := [(.r (.at (.int .i64 x1))), (.r (.at (.lst (.int .i64) x2 false)))]
noncomputable def f17_K (x1 : Int) (x2 : List Int) : List (Nat × Blk) := []
def f17_C (x1 : Int) (x2 : List Int) (r : (List Int) × Int) : Prop := CallOK cx 17 (f17_A x1 x2) (f17_K x1 x2) [] (f17_v r) (f17_k x1 x2 r)

def f105_M : List Nat := []
noncomputable def f105_v : (Int × Int) → G := fun (y0, y1) => (.tup [(.at (.int .u64 y0)), (.at (.int .u64 y1))])
noncomputable def f105_k0 : (Int × Int) → List (Nat × Blk) := fun (y0, y1) => []
noncomputable def f105_k (x1 : Int) (x2 : Int) : (Int × Int) → List (Nat × Blk) := fun (y0, y1) => []
noncomputable def f105_A (x1 : Int) (x2 : Int) : List G := [(.r (.at (.int .u64 x1))), (.r (.at (.int .u64 x2)))]
noncomputable def f105_K (x1 : Int) (x2 : Int) : List (Nat × Blk) := []
def f105_C (x1 : Int) (x2 : Int) (r : Int × Int) : Prop := CallOK cx 105 (f105_A x1 x2) (f105_K x1 x2) [] (f105_v r) (f105_k x1 x2 r)

def f87_M : List Nat := []
noncomputable def f87_v : (Int × Int) → G := fun (y0, y1) => (.tup [(.at (.int .u64 y0)), (.at (.int .u64 y1))])
noncomputable def f87_k0 : (Int × Int) → List (Nat × Blk) := fun (y0, y1) => []
noncomputable def f87_k (x1 : Int) (x2 : Int) : (Int × Int) → List (Nat × Blk) := fun (y0, y1) => []
noncomputable def f87_A (x1 : Int) (x2 : Int) : List G := [(.r (.at (.int .u64 x1))), (.r (.at (.int .u64 x2)))]
noncomputable def f87_K (x1 : Int) (x2 : Int) : List (Nat × Blk) := []
def f87_C (x1 : Int) (x2 : Int) (r : Int × Int) : Prop := CallOK cx 87 (f87_A x1 x2) (f87_K x1 x2) [] (f87_v r) (f87_k x1 x2 r)

def f57_M : List Nat := [18]
noncomputable def f57_p0_H (x1 : List Int) (x2 : Int) : GS := ⟨[(0, (.r (.at (.lst (.int .i64) x1 false)))), (1, (.r (.at (.int .i64 x2)))), (10, (.r (.at (.bool (decide (x2 < 0))))))], []⟩
noncomputable def f57_p0_x : Unit → GExit := fun _ => .normal
noncomputable def f57_p0_s (x1 : List Int) (x2 : Int) : Unit → GS := fun _ => ⟨[(0, (.r (.at (.lst (.int .i64) x1 false)))), (1, (.r (.at (.int .i64 x2))))], []⟩
def f57_p0_P (x1 : List Int) (x2 : Int) (r : Unit) : Prop := Ex cx f57_M 48 (part Tryd.f57 0) (f57_p0_H x1 x2) (f57_p0_x r) (f57_p0_s x1 x2 r)
noncomputable def f57_p1_H (x1 : List Int) (x4 : Int) : GS := ⟨[(0, (.r (.at (.lst (.int .i64) x1 false)))), (6, (.r (.at (.int .u64 x4)))), (26, (.r (.at (.bool (decide (x4 > 9223372036854775807))))))], []⟩
noncomputable def f57_p1_x : Unit → GExit := fun _ => .normal
noncomputable def f57_p1_s (x1 : List Int) (x4 : Int) : Unit → GS := fun _ => ⟨[(0, (.r (.at (.lst (.int .i64) x1 false)))), (6, (.r (.at (.int .u64 x4))))], []⟩
def f57_p1_P (x1 : List Int) (x4 : Int) (r : Unit) : Prop := Ex cx f57_M 48 (part Tryd.f57 1) (f57_p1_H x1 x4) (f57_p1_x r) (f57_p1_s x1 x4 r)
noncomputable def f57_p3_H (x4 : Int) (x7 : Int) (x6 : List Int) : GS := ⟨[(7, (.r (.at (.sl 18 0 (Int.toNat (w64 (x4))))))), (8, (.r (.at (.int .i64 x7))))], [(18, (.gr (.int .i64) 3 x6 true))]⟩
noncomputable def f57_p3_x : (List Int) → GExit := fun y0 => (.exit 0)
noncomputable def f57_p3_s (x4 : Int) : (List Int) → GS := fun y0 => ⟨[(7, (.r (.at (.sl 18 0 (Int.toNat (w64 (x4)))))))], [(18, (.gr (.int .i64) 3 y0 true))]⟩
def f57_p3_P (x4 : Int) (x7 : Int) (x6 : List Int) (r : (List Int)) : Prop := Lp cx f57_M 48 (part Tryd.f57 3) (f57_p3_H x4 x7 x6) (f57_p3_x r) (f57_p3_s x4 r)
noncomputable def f57_v : (Nat × Nat × (List Int)) → G := fun (y0, y1, y2) => (.r (.at (.sl 18 y0 y1)))
noncomputable def f57_k0 : (Nat × Nat × (List Int)) → List (Nat × Blk) := fun (y0, y1, y2) => [(18, (.gr (.int .i64) 3 y2 true))]
noncomputable def f57_k (x1 : List Int) (x2 : Int) : (Nat × Nat × (List Int)) → List (Nat × Blk) := fun (y0, y1, y2) => [(18, (.gr (.int .i64) 3 y2 true))]
noncomputable def f57_A (x1 : List Int) (x2 : Int) : List G := [(.r (.at (.lst (.int .i64) x1 false))), (.r (.at (.int .i64 x2)))]
noncomputable def f57_K (x1 : List Int) (x2 : Int) : List (Nat × Blk) := []
def f57_C (x1 : List Int) (x2 : Int) (r : Nat × Nat × (List Int)) : Prop := CallOK cx 57 (f57_A x1 x2) (f57_K x1 x2) [] (f57_v r) (f57_k x1 x2 r)

def f80_M : List Nat := []
noncomputable def f80_p1_H (x1 : List Int) (x2 : Int) (x3 : Int) : GS := ⟨[(0, (.r (.at (.lst (.int .i64) x1 false)))), (1, (.r (.at (.int .i64 x2)))), (7, (.r (.at (.int .i64 ((List.length x1 : Nat) : Int))))), (8, (.r (.at (.int .i64 x3))))], []⟩
noncomputable def f80_p1_x : f80_p1_R → GExit := fun
  | .c0 y0 => .ret
  | .c1 => (.exit 0)
noncomputable def f80_p1_s (x1 : List Int) (x2 : Int) : f80_p1_R → GS := fun
  | .c0 y0 => ⟨[(4, (.r (.at (.int .i64 y0))))], []⟩
  | .c1 => ⟨[], []⟩
def f80_p1_P (x1 : List Int) (x2 : Int) (x3 : Int) (r : f80_p1_R) : Prop := Lp cx f80_M 19 (part Tryd.f80 1) (f80_p1_H x1 x2 x3) (f80_p1_x r) (f80_p1_s x1 x2 r)
noncomputable def f80_v : Int → G := fun y0 => (.r (.at (.int .i64 y0)))
noncomputable def f80_k0 : Int → List (Nat × Blk) := fun y0 => []
noncomputable def f80_k (x1 : List Int) (x2 : Int) : Int → List (Nat × Blk) := fun y0 => []
noncomputable def f80_A (x1 : List Int) (x2 : Int) : List G := [(.r (.at (.lst (.int .i64) x1 false))), (.r (.at (.int .i64 x2)))]
noncomputable def f80_K (x1 : List Int) (x2 : Int) : List (Nat × Blk) := []
def f80_C (x1 : List Int) (x2 : Int) (r : Int) : Prop := CallOK cx 80 (f80_A x1 x2) (f80_K x1 x2) [] (f80_v r) (f80_k x1 x2 r)

def f36_M : List Nat := []
noncomputable def f36_v : Bool → G := fun y0 => (.r (.at (.bool y0)))
noncomputable def f36_k0 : Bool → List (Nat × Blk) := fun y0 => []
noncomputable def f36_k (x1 : List Int) (x2 : Int) : Bool → List (Nat × Blk) := fun y0 => []
noncomputable def f36_A (x1 : List Int) (x2 : Int) : List G := [(.r (.at (.lst (.int .i64) x1 false))), (.r (.at (.int .i64 x2)))]
noncomputable def f36_K (x1 : List Int) (x2 : Int) : List (Nat × Blk) := []
def f36_C (x1 : List Int) (x2 : Int) (r : Bool) : Prop := CallOK cx 36 (f36_A x1 x2) (f36_K x1 x2) [] (f36_v r) (f36_k x1 x2 r)

def f19_M : List Nat := [16, 17, 18, 19]
noncomputable def f19_p9_5_H (x1 : Int) (x2 : List Int) (x39 : Int) (x41 : Nat) (x42 : Nat) (x51 : Int) (x50 : Int) (x52 : Bool) (x40 : Int) (x38 : List (List Int)) (x49 : List Int) : GS := ⟨[(0, (.r (.at (.int .i64 x1)))), (1, (.r (.at (.lst (.int .i64) x2 false)))), (4, (.r (.at (.ptr 16 0 0)))), (8, (.r (.at (.ptr 17 0 0)))), (9, (.r (.at (.int .i64 x39)))), (10, (.r (.at (.sl 18 x41 x42)))), (12, (.r (.at (.int .i64 x51)))), (25, (.r (.at (.int .i64 x1)))), (26, (.r (.at (.int .i64 x39)))), (34, (.r (.at (.lst (.int .i64) x2 false)))), (35, (.r (.at (.int .i64 ((List.length x2 : Nat) : Int))))), (36, (.r (.at (.int .i64 x50)))), (46, (.r (.at (.bool (!x52)))))], [(16, (.var [.cell (.int .i64 0), .cell .nils])), (17, (.var [.cell (.int .i64 x40), .cell (.sl 19 0 (List.length x38))])), (18, (.gr (.int .i64) 3 x49 true)), (19, (.gr (.list (.int .i64)) 22 x38 true))]⟩
noncomputable def f19_p9_5_x : (List Int) → GExit := fun y0 => .normal
noncomputable def f19_p9_5_s (x1 : Int) (x2 : List Int) (x39 : Int) (x41 : Nat) (x42 : Nat) (x51 : Int) (x50 : Int) (x52 : Bool) (x40 : Int) (x38 : List (List Int)) (x49 : List Int) : (List Int) → GS := fun y0 => ⟨[(0, (.r (.at (.int .i64 x1)))), (1, (.r (.at (.lst (.int .i64) x2 false)))), (4, (.r (.at (.ptr 16 0 0)))), (8, (.r (.at (.ptr 17 0 0)))), (9, (.r (.at (.int .i64 x39)))), (10, (.r (.at (.sl 18 x41 x42)))), (25, (.r (.at (.int .i64 x1)))), (26, (.r (.at (.int .i64 x39)))), (34, (.r (.at (.lst (.int .i64) x2 false)))), (35, (.r (.at (.int .i64 ((List.length x2 : Nat) : Int))))), (36, (.r (.at (.int .i64 x50))))], [(16, (.var [.cell (.int .i64 0), .cell .nils])), (17, (.var [.cell (.int .i64 x40), .cell (.sl 19 0 (List.length x38))])), (18, (.gr (.int .i64) 3 y0 true)), (19, (.gr (.list (.int .i64)) 22 x38 true))]⟩
def f19_p9_5_P (x1 : Int) (x2 : List Int) (x39 : Int) (x41 : Nat) (x42 : Nat) (x51 : Int) (x50 : Int) (x52 : Bool) (x40 : Int) (x38 : List (List Int)) (x49 : List Int) (r : (List Int)) : Prop := Ex cx f19_M 66 (part Tryd.f19 9) (f19_p9_5_H x1 x2 x39 x41 x42 x51 x50 x52 x40 x38 x49) (f19_p9_5_x r) (f19_p9_5_s x1 x2 x39 x41 x42 x51 x50 x52 x40 x38 x49 r)
noncomputable def f19_p6_2_H (x1 : Int) (x2 : List Int) (x39 : Int) (x41 : Nat) (x42 : Nat) (x40 : Int) (x38 : List (List Int)) (x50 : Int) (x49 : List Int) : GS := ⟨[(0, (.r (.at (.int .i64 x1)))), (1, (.r (.at (.lst (.int .i64) x2 false)))), (4, (.r (.at (.ptr 16 0 0)))), (8, (.r (.at (.ptr 17 0 0)))), (9, (.r (.at (.int .i64 x39)))), (10, (.r (.at (.sl 18 x41 x42)))), (25, (.r (.at (.int .i64 x1)))), (26, (.r (.at (.int .i64 x39)))), (34, (.r (.at (.lst (.int .i64) x2 false)))), (35, (.r (.at (.int .i64 ((List.length x2 : Nat) : Int))))), (36, (.r (.at (.int .i64 x50))))], [(16, (.var [.cell (.int .i64 0), .cell .nils])), (17, (.var [.cell (.int .i64 x40), .cell (.sl 19 0 (List.length x38))])), (18, (.gr (.int .i64) 3 x49 true)), (19, (.gr (.list (.int .i64)) 22 x38 true))]⟩
noncomputable def f19_p6_2_x : (List Int) → GExit := fun y0 => (.exit 2)
noncomputable def f19_p6_2_s (x1 : Int) (x2 : List Int) (x39 : Int) (x41 : Nat) (x42 : Nat) (x40 : Int) (x38 : List (List Int)) : (List Int) → GS := fun y0 => ⟨[(0, (.r (.at (.int .i64 x1)))), (1, (.r (.at (.lst (.int .i64) x2 false)))), (4, (.r (.at (.ptr 16 0 0)))), (8, (.r (.at (.ptr 17 0 0)))), (10, (.r (.at (.sl 18 x41 x42)))), (25, (.r (.at (.int .i64 x1)))), (26, (.r (.at (.int .i64 x39))))], [(16, (.var [.cell (.int .i64 0), .cell .nils])), (17, (.var [.cell (.int .i64 x40), .cell (.sl 19 0 (List.length x38))])), (18, (.gr (.int .i64) 3 y0 true)), (19, (.gr (.list (.int .i64)) 22 x38 true))]⟩
def f19_p6_2_P (x1 : Int) (x2 : List Int) (x39 : Int) (x41 : Nat) (x42 : Nat) (x40 : Int) (x38 : List (List Int)) (x50 : Int) (x49 : List Int) (r : (List Int)) : Prop := Lp cx f19_M 66 (part Tryd.f19 6) (f19_p6_2_H x1 x2 x39 x41 x42 x40 x38 x50 x49) (f19_p6_2_x r) (f19_p6_2_s x1 x2 x39 x41 x42 x40 x38 r)
noncomputable def f19_p2_H (x1 : Int) (x2 : List Int) (x39 : Int) (x40 : Int) (x38 : List (List Int)) : GS := ⟨[(0, (.r (.at (.int .i64 x1)))), (1, (.r (.at (.lst (.int .i64) x2 false)))), (4, (.r (.at (.ptr 16 0 0)))), (8, (.r (.at (.ptr 17 0 0)))), (25, (.r (.at (.int .i64 x1)))), (26, (.r (.at (.int .i64 x39))))], [(16, (.var [.cell (.int .i64 0), .cell .nils])), (17, (.var [.cell (.int .i64 x40), .cell (.sl 19 0 (List.length x38))])), (19, (.gr (.list (.int .i64)) 22 x38 true))]⟩
noncomputable def f19_p2_x : (Int × (List (List Int))) → GExit := fun (y0, y1) => (.exit 0)
noncomputable def f19_p2_s (x1 : Int) (x2 : List Int) : (Int × (List (List Int))) → GS := fun (y0, y1) => ⟨[(4, (.r (.at (.ptr 16 0 0)))), (8, (.r (.at (.ptr 17 0 0))))], [(16, (.var [.cell (.int .i64 0), .cell .nils])), (17, (.var [.cell (.int .i64 y0), .cell (.sl 19 0 (List.length y1))])), (19, (.gr (.list (.int .i64)) 22 y1 true))]⟩
def f19_p2_P (x1 : Int) (x2 : List Int) (x39 : Int) (x40 : Int) (x38 : List (List Int)) (r : Int × (List (List Int))) : Prop := Lp cx f19_M 66 (part Tryd.f19 2) (f19_p2_H x1 x2 x39 x40 x38) (f19_p2_x r) (f19_p2_s x1 x2 r)
noncomputable def f19_v : (Int × (List (List Int)) × Int) → G := fun (y0, y1, y2) => (.tup [(.agg [.cell (.int .i64 y0), .cell (.lst (.list (.int .i64)) y1 false)]), (.at (.int .i64 y2))])
noncomputable def f19_k0 : (Int × (List (List Int)) × Int) → List (Nat × Blk) := fun (y0, y1, y2) => []
noncomputable def f19_k (x1 : Int) (x2 : List Int) : (Int × (List (List Int)) × Int) → List (Nat × Blk) := fun (y0, y1, y2) => []
noncomputable def f19_A (x1 : Int) (x2 : List Int) : List G := [(.r (.at (.int .i64 x1))), (.r (.at (.lst (.int .i64) x2 false)))]
noncomputable def f19_K (x1 : Int) (x2 : List Int) : List (Nat × Blk) := []
def f19_C (x1 : Int) (x2 : List Int) (r : Int × (List (List Int)) × Int) : Prop := CallOK cx 19 (f19_A x1 x2) (f19_K x1 x2) [] (f19_v r) (f19_k x1 x2 r)

def f69_M : List Nat := []
noncomputable def f69_v : Int → G := fun y0 => (.r (.at (.int .i64 y0)))
noncomputable def f69_k0 : Int → List (Nat × Blk) := fun y0 => []
noncomputable def f69_k (x1 : Int) : Int → List (Nat × Blk) := fun y0 => []
noncomputable def f69_A (x1 : Int) : List G := [(.r (.at (.int .i64 x1)))]
noncomputable def f69_K (x1 : Int) : List (Nat × Blk) := []
def f69_C (x1 : Int) (r : Int) : Prop := CallOK cx 69 (f69_A x1) (f69_K x1) [] (f69_v r) (f69_k x1 r)

def f107_M : List Nat := []
noncomputable def f107_v : Int → G := fun y0 => (.r (.at (.int .i64 y0)))
noncomputable def f107_k0 : Int → List (Nat × Blk) := fun y0 => []
noncomputable def f107_k (x1 : Int) : Int → List (Nat × Blk) := fun y0 => []
noncomputable def f107_A (x1 : Int) : List G := [(.r (.at (.int .u64 x1)))]
noncomputable def f107_K (x1 : Int) : List (Nat × Blk) := []
def f107_C (x1 : Int) (r : Int) : Prop := CallOK cx 107 (f107_A x1) (f107_K x1) [] (f107_v r) (f107_k x1 r)

def f88_M : List Nat := []
noncomputable def f88_v : Int → G := fun y0 => (.r (.at (.int .i64 y0)))
noncomputable def f88_k0 : Int → List (Nat × Blk) := fun y0 => []
noncomputable def f88_k (x1 : Int) : Int → List (Nat × Blk) := fun y0 => []
noncomputable def f88_A (x1 : Int) : List G := [(.r (.at (.int .u64 x1)))]
noncomputable def f88_K (x1 : Int) : List (Nat × Blk) := []
def f88_C (x1 : Int) (r : Int) : Prop := CallOK cx 88 (f88_A x1) (f88_K x1) [] (f88_v r) (f88_k x1 r)

def f70_M : List Nat := []
noncomputable def f70_p1_H (x2 : Int) (x3 : Int) : GS := ⟨[(3, (.r (.at (.int .i64 x2)))), (4, (.r (.at (.int .u64 x3))))], []⟩
noncomputable def f70_p1_x : Int → GExit := fun y0 => (.exit 0)
noncomputable def f70_p1_s : Int → GS := fun y0 => ⟨[(3, (.r (.at (.int .i64 y0))))], []⟩
def f70_p1_P (x2 : Int) (x3 : Int) (r : Int) : Prop := Lp cx f70_M 19 (part Tryd.f70 1) (f70_p1_H x2 x3) (f70_p1_x r) (f70_p1_s r)
noncomputable def f70_v : Int → G := fun y0 => (.r (.at (.int .i64 y0)))
noncomputable def f70_k0 : Int → List (Nat × Blk) := fun y0 => []
noncomputable def f70_k (x1 : Int) : Int → List (Nat × Blk) := fun y0 => []
noncomputable def f70_A (x1 : Int) : List G := [(.r (.at (.int .i64 x1)))]
noncomputable def f70_K (x1 : Int) : List (Nat × Blk) := []
def f70_C (x1 : Int) (r : Int) : Prop := CallOK cx 70 (f70_A x1) (f70_K x1) [] (f70_v r) (f70_k x1 r)

def f23_M : List Nat := [21]
noncomputable def f23_p5_1_H (x5 : List Int) (x6 : Int) (x1 : Int) (x7 : Int) : GS := ⟨[(5, (.r (.at (.sl 21 0 (List.length x5))))), (6, (.r (.at (.int .i64 x6)))), (13, (.r (.at (.int .i64 (iShl .i64 1 x1))))), (14, (.r (.at (.int .i64 x6)))), (19, (.r (.at (.bool (x7 == 0)))))], [(21, (.gr (.int .i64) 3 x5 true))]⟩
noncomputable def f23_p5_1_x : (List Int) → GExit := fun y0 => .normal
noncomputable def f23_p5_1_s (x5 : List Int) (x6 : Int) (x1 : Int) (x7 : Int) : (List Int) → GS := fun y0 => ⟨[(5, (.r (.at (.sl 21 0 (List.length y0))))), (13, (.r (.at (.int .i64 (iShl .i64 1 x1))))), (14, (.r (.at (.int .i64 x6))))], [(21, (.gr (.int .i64) 3 y0 true))]⟩
def f23_p5_1_P (x5 : List Int) (x6 : Int) (x1 : Int) (x7 : Int) (r : (List Int)) : Prop := Ex cx f23_M 26 (part Tryd.f23 5) (f23_p5_1_H x5 x6 x1 x7) (f23_p5_1_x r) (f23_p5_1_s x5 x6 x1 x7 r)
noncomputable def f23_p2_H (x1 : Int) (x6 : Int) (x5 : List Int) : GS := ⟨[(5, (.r (.at (.sl 21 0 (List.length x5))))), (13, (.r (.at (.int .i64 (iShl .i64 1 x1))))), (14, (.r (.at (.int .i64 x6))))], [(21, (.gr (.int .i64) 3 x5 true))]⟩
noncomputable def f23_p2_x : (List Int) → GExit := fun y0 => (.exit 0)
noncomputable def f23_p2_s (x1 : Int) : (List Int) → GS := fun y0 => ⟨[(5, (.r (.at (.sl 21 0 (List.length y0)))))], [(21, (.gr (.int .i64) 3 y0 true))]⟩
def f23_p2_P (x1 : Int) (x6 : Int) (x5 : List Int) (r : (List Int)) : Prop := Lp cx f23_M 26 (part Tryd.f23 2) (f23_p2_H x1 x6 x5) (f23_p2_x r) (f23_p2_s x1 r)
noncomputable def f23_v : ((List Int) × Int) → G := fun (y0, y1) => (.tup [(.at (.lst (.int .i64) y0 false)), (.at (.int .i64 y1))])
noncomputable def f23_k0 : ((List Int) × Int) → List (Nat × Blk) := fun (y0, y1) => []
noncomputable def f23_k (x1 : Int) : ((List Int) × Int) → List (Nat × Blk) := fun (y0, y1) => []
noncomputable def f23_A (x1 : Int) : List G := [(.r (.at (.int .i64 x1)))]
noncomputable def f23_K (x1 : Int) : List (Nat × Blk) := []
def f23_C (x1 : Int) (r : (List Int) × Int) : Prop := CallOK cx 23 (f23_A x1) (f23_K x1) [] (f23_v r) (f23_k x1 r)

def f25_M : List Nat := []
noncomputable def f25_v : (Int × Int) → G := fun (y0, y1) => (.tup [(.at (.int .i64 y0)), (.at (.int .i64 y1))])
noncomputable def f25_k0 : (Int × Int) → List (Nat × Blk) := fun (y0, y1) => []
noncomputable def f25_k (x1 : Int) (x2 : Int) : (Int × Int) → List (Nat × Blk) := fun (y0, y1) => []
noncomputable def f25_A (x1 : Int) (x2 : Int) : List G := [(.r (.at (.int .i64 x1))), (.r (.at (.int .i64 x2)))]
noncomputable def f25_K (x1 : Int) (x2 : Int) : List (Nat × Blk) := []
def f25_C (x1 : Int) (x2 : Int) (r : Int × Int) : Prop := CallOK cx 25 (f25_A x1 x2) (f25_K x1 x2) [] (f25_v r) (f25_k x1 x2 r)

def f89_M : List Nat := []
noncomputable def f89_v : Int → G := fun y0 => (.r (.at (.int .i64 y0)))
noncomputable def f89_k0 : Int → List (Nat × Blk) := fun y0 => []
noncomputable def f89_k (x1 : Int) : Int → List (Nat × Blk) := fun y0 => []
noncomputable def f89_A (x1 : Int) : List G := [(.r (.at (.int .u16 x1)))]
noncomputable def f89_K (x1 : Int) : List (Nat × Blk) := []
def f89_C (x1 : Int) (r : Int) : Prop := CallOK cx 89 (f89_A x1) (f89_K x1) [] (f89_v r) (f89_k x1 r)

def f90_M : List Nat := []
noncomputable def f90_v : (List Int) → G := fun y0 => (.r (.at (.lst (.int .i64) y0 true)))
noncomputable def f90_k0 : (List Int) → List (Nat × Blk) := fun y0 => []
noncomputable def f90_k (x1 : List Int) : (List Int) → List (Nat × Blk) := fun y0 => []
noncomputable def f90_A (x1 : List Int) : List G := [(.r (.at (.lst (.int .i64) x1 false)))]
noncomputable def f90_K (x1 : List Int) : List (Nat × Blk) := []
def f90_C (x1 : List Int) (r : (List Int)) : Prop := CallOK cx 90 (f90_A x1) (f90_K x1) [] (f90_v r) (f90_k x1 r)

def f75_M : List Nat := [24, 25]
noncomputable def f75_p2_H (x4 : List Int) (x5 : Int) (x6 : Int) (x1 : Int) (x2 : List Int) (x3 : Int) : GS := ⟨[(1, (.r (.at (.lst (.int .i64) x4 false)))), (2, (.r (.at (.int .u16 x5)))), (3, (.r (.at (.int .i64 x6)))), (4, (.r (.at (.ptr 24 0 0)))), (10, (.r (.at (.int .i64 0)))), (34, (.r (.at (.bool (decide (((List.length x4 : Nat) : Int) > 0))))))], [(24, (.var [.cell (.int .i64 x1), .cell (.lst (.int .u16) x2 false), .cell (.int .u16 x3)]))]⟩
noncomputable def f75_p2_x : Int → GExit := fun y0 => .normal
noncomputable def f75_p2_s (x4 : List Int) (x5 : Int) (x6 : Int) (x1 : Int) (x2 : List Int) (x3 : Int) : Int → GS := fun y0 => ⟨[(1, (.r (.at (.lst (.int .i64) x4 false)))), (2, (.r (.at (.int .u16 x5)))), (3, (.r (.at (.int .i64 x6)))), (4, (.r (.at (.ptr 24 0 0)))), (10, (.r (.at (.int .i64 y0))))], [(24, (.var [.cell (.int .i64 x1), .cell (.lst (.int .u16) x2 false), .cell (.int .u16 x3)]))]⟩
def f75_p2_P (x4 : List Int) (x5 : Int) (x6 : Int) (x1 : Int) (x2 : List Int) (x3 : Int) (r : Int) : Prop := Ex cx f75_M 71 (part Tryd.f75 2) (f75_p2_H x4 x5 x6 x1 x2 x3) (f75_p2_x r) (f75_p2_s x4 x5 x6 x1 x2 x3 r)
noncomputable def f75_p4_H (x4 : List Int) (x5 : Int) (x6 : Int) (x1 : Int) (x2 : List Int) (x3 : Int) (x10 : Int) : GS := ⟨[(1, (.r (.at (.lst (.int .i64) x4 false)))), (2, (.r (.at (.int .u16 x5)))), (3, (.r (.at (.int .i64 x6)))), (4, (.r (.at (.ptr 24 0 0)))), (11, (.r (.at (.int .i64 x10))))], [(24, (.var [.cell (.int .i64 x1), .cell (.lst (.int .u16) x2 false), .cell (.int .u16 x3)]))]⟩
noncomputable def f75_p4_x : f75_p4_R → GExit := fun
  | .c0 y0 => .ret
  | .c1 => (.exit 0)
noncomputable def f75_p4_s (x4 : List Int) (x5 : Int) (x6 : Int) (x1 : Int) (x2 : List Int) (x3 : Int) : f75_p4_R → GS := fun
  | .c0 y0 => ⟨[(8, (.r (.at (.lst (.int .i64) y0 false)))), (9, (.r (.at (.bool true))))], []⟩
  | .c1 => ⟨[], []⟩
def f75_p4_P (x4 : List Int) (x5 : Int) (x6 : Int) (x1 : Int) (x2 : List Int) (x3 : Int) (x10 : Int) (r : f75_p4_R) : Prop := Lp cx f75_M 71 (part Tryd.f75 4) (f75_p4_H x4 x5 x6 x1 x2 x3 x10) (f75_p4_x r) (f75_p4_s x4 x5 x6 x1 x2 x3 r)
noncomputable def f75_v : ((List Int) × Bool) → G := fun (y0, y1) => (.tup [(.at (.lst (.int .i64) y0 false)), (.at (.bool y1))])
noncomputable def f75_k0 : ((List Int) × Bool) → List (Nat × Blk) := fun (y0, y1) => []
noncomputable def f75_k (x1 : Int) (x2 : List Int) (x3 : Int) (x4 : List Int) (x5 : Int) (x6 : Int) : ((List Int) × Bool) → List (Nat × Blk) := fun (y0, y1) => []
noncomputable def f75_A (x1 : Int) (x2 : List Int) (x3 : Int) (x4 : List Int) (x5 : Int) (x6 : Int) : List G := [(.r (.agg [.cell (.int .i64 x1), .cell (.lst (.int .u16) x2 false), .cell (.int .u16 x3)])), (.r (.at (.lst (.int .i64) x4 false))), (.r (.at (.int .u16 x5))), (.r (.at (.int .i64 x6)))]
noncomputable def f75_K (x1 : Int) (x2 : List Int) (x3 : Int) (x4 : List Int) (x5 : Int) (x6 : Int) : List (Nat × Blk) := []
def f75_C (x1 : Int) (x2 : List Int) (x3 : Int) (x4 : List Int) (x5 : Int) (x6 : Int) (r : (List Int) × Bool) : Prop := CallOK cx 75 (f75_A x1 x2 x3 x4 x5 x6) (f75_K x1 x2 x3 x4 x5 x6) [] (f75_v r) (f75_k x1 x2 x3 x4 x5 x6 r)

def f27_M : List Nat := [22, 23]
noncomputable def f27_p8_2_H (x1 : Int) (x14 : Int) (x15 : Int) (x13 : List Int) (x16 : Int) (x17 : Int) (x18 : Int) : GS := ⟨[(0, (.r (.at (.int .i64 x1)))), (4, (.r (.at (.ptr 22 0 0)))), (5, (.r (.at (.int .i64 x14)))), (6, (.r (.at (.int .u16 x17)))), (25, (.r (.at (.int .i64 (iShl .i64 1 x1))))), (26, (.r (.at (.int .i64 x14)))), (31, (.r (.at (.int .i64 x1)))), (32, (.r (.at (.int .i64 x18))))], [(22, (.var [.cell (.int .i64 x15), .cell (.sl 23 0 (List.length x13)), .cell (.int .u16 x16)])), (23, (.gr (.int .u16) 64 x13 true))]⟩
noncomputable def f27_p8_2_x : Int → GExit := fun y0 => (.exit 3)
noncomputable def f27_p8_2_s (x1 : Int) (x14 : Int) (x15 : Int) (x13 : List Int) (x16 : Int) : Int → GS := fun y0 => ⟨[(0, (.r (.at (.int .i64 x1)))), (4, (.r (.at (.ptr 22 0 0)))), (6, (.r (.at (.int .u16 y0)))), (25, (.r (.at (.int .i64 (iShl .i64 1 x1))))), (26, (.r (.at (.int .i64 x14))))], [(22, (.var [.cell (.int .i64 x15), .cell (.sl 23 0 (List.length x13)), .cell (.int .u16 x16)])), (23, (.gr (.int .u16) 64 x13 true))]⟩
def f27_p8_2_P (x1 : Int) (x14 : Int) (x15 : Int) (x13 : List Int) (x16 : Int) (x17 : Int) (x18 : Int) (r : Int) : Prop := Lp cx f27_M 65 (part Tryd.f27 8) (f27_p8_2_H x1 x14 x15 x13 x16 x17 x18) (f27_p8_2_x r) (f27_p8_2_s x1 x14 x15 x13 x16 r)
noncomputable def f27_p4_H (x1 : Int) (x14 : Int) (x15 : Int) (x16 : Int) (x13 : List Int) : GS := ⟨[(0, (.r (.at (.int .i64 x1)))), (4, (.r (.at (.ptr 22 0 0)))), (25, (.r (.at (.int .i64 (iShl .i64 1 x1))))), (26, (.r (.at (.int .i64 x14))))], [(22, (.var [.cell (.int .i64 x15), .cell (.sl 23 0 (List.length x13)), .cell (.int .u16 x16)])), (23, (.gr (.int .u16) 64 x13 true))]⟩
noncomputable def f27_p4_x : (Int × Int × (List Int)) → GExit := fun (y0, y1, y2) => (.exit 1)
noncomputable def f27_p4_s (x1 : Int) : (Int × Int × (List Int)) → GS := fun (y0, y1, y2) => ⟨[(4, (.r (.at (.ptr 22 0 0))))], [(22, (.var [.cell (.int .i64 y0), .cell (.sl 23 0 (List.length y2)), .cell (.int .u16 y1)])), (23, (.gr (.int .u16) 64 y2 true))]⟩
def f27_p4_P (x1 : Int) (x14 : Int) (x15 : Int) (x16 : Int) (x13 : List Int) (r : Int × Int × (List Int)) : Prop := Lp cx f27_M 65 (part Tryd.f27 4) (f27_p4_H x1 x14 x15 x16 x13) (f27_p4_x r) (f27_p4_s x1 r)
noncomputable def f27_p12_H (x20 : Int) (x22 : List Int) (x21 : Int) (x26 : Int) : GS := ⟨[(4, (.r (.at (.ptr 22 0 0)))), (8, (.r (.at (.int .i64 x26))))], [(22, (.var [.cell (.int .i64 x20), .cell (.lst (.int .u16) ((List.drop 0 (List.take (0 + (List.length x22)) x22)) : List Int) false), .cell (.int .u16 x21)]))]⟩
noncomputable def f27_p12_x : f27_p12_R → GExit := fun
  | .c0 y0 => .ret
  | .c1 => (.exit 5)
noncomputable def f27_p12_s (x20 : Int) (x22 : List Int) (x21 : Int) : f27_p12_R → GS := fun
  | .c0 y0 => ⟨[(2, (.r (.at (.lst (.int .i64) y0 false)))), (3, (.r (.at (.int .i64 0))))], []⟩
  | .c1 => ⟨[], []⟩
def f27_p12_P (x20 : Int) (x22 : List Int) (x21 : Int) (x26 : Int) (r : f27_p12_R) : Prop := Lp cx f27_M 65 (part Tryd.f27 12) (f27_p12_H x20 x22 x21 x26) (f27_p12_x r) (f27_p12_s x20 x22 x21 r)
noncomputable def f27_v : ((List Int) × Int) → G := fun (y0, y1) => (.tup [(.at (.lst (.int .i64) y0 false)), (.at (.int .i64 y1))])
noncomputable def f27_k0 : ((List Int) × Int) → List (Nat × Blk) := fun (y0, y1) => []
noncomputable def f27_k (x1 : Int) : ((List Int) × Int) → List (Nat × Blk) := fun (y0, y1) => []
noncomputable def f27_A (x1 : Int) : List G := [(.r (.at (.int .i64 x1)))]
noncomputable def f27_K (x1 : Int) : List (Nat × Blk) := []
def f27_C (x1 : Int) (r : (List Int) × Int) : Prop := CallOK cx 27 (f27_A x1) (f27_K x1) [] (f27_v r) (f27_k x1 r)

def f29_M : List Nat := []
noncomputable def f29_v : (Int × Int) → G := fun (y0, y1) => (.tup [(.at (.int .i64 y0)), (.at (.int .i64 y1))])
noncomputable def f29_k0 : (Int × Int) → List (Nat × Blk) := fun (y0, y1) => []
noncomputable def f29_k (x1 : Int) : (Int × Int) → List (Nat × Blk) := fun (y0, y1) => []
noncomputable def f29_A (x1 : Int) : List G := [(.r (.at (.int .i64 x1)))]
noncomputable def f29_K (x1 : Int) : List (Nat × Blk) := []
def f29_C (x1 : Int) (r : Int × Int) : Prop := CallOK cx 29 (f29_A x1) (f29_K x1) [] (f29_v r) (f29_k x1 r)

def f21_M : List Nat := []
noncomputable def f21_p2_H (x1 : List Int) (x2 : List Int) (x3 : Int) : GS := ⟨[(0, (.r (.at (.lst (.int .i64) x1 false)))), (1, (.r (.at (.lst (.int .i64) x2 false)))), (5, (.r (.at (.int .i64 x3))))], []⟩
noncomputable def f21_p2_x : f21_p2_R → GExit := fun
  | .c0 => .ret
  | .c1 => (.exit 0)
noncomputable def f21_p2_s (x1 : List Int) (x2 : List Int) : f21_p2_R → GS := fun
  | .c0 => ⟨[(4, (.r (.at (.bool false))))], []⟩
  | .c1 => ⟨[], []⟩
def f21_p2_P (x1 : List Int) (x2 : List Int) (x3 : Int) (r : f21_p2_R) : Prop := Lp cx f21_M 26 (part Tryd.f21 2) (f21_p2_H x1 x2 x3) (f21_p2_x r) (f21_p2_s x1 x2 r)
noncomputable def f21_v : Bool → G := fun y0 => (.r (.at (.bool y0)))
noncomputable def f21_k0 : Bool → List (Nat × Blk) := fun y0 => []
noncomputable def f21_k (x1 : List Int) (x2 : List Int) : Bool → List (Nat × Blk) := fun y0 => []
noncomputable def f21_A (x1 : List Int) (x2 : List Int) : List G := [(.r (.at (.lst (.int .i64) x1 false))), (.r (.at (.lst (.int .i64) x2 false)))]
noncomputable def f21_K (x1 : List Int) (x2 : List Int) : List (Nat × Blk) := []
def f21_C (x1 : List Int) (x2 : List Int) (r : Bool) : Prop := CallOK cx 21 (f21_A x1 x2) (f21_K x1 x2) [] (f21_v r) (f21_k x1 x2 r)

def f22_M : List Nat := []
noncomputable def f22_p2_H (x1 : List (List Int)) (x2 : List (List Int)) (x3 : Int) : GS := ⟨[(0, (.r (.at (.lst (.list (.int .i64)) x1 false)))), (1, (.r (.at (.lst (.list (.int .i64)) x2 false)))), (5, (.r (.at (.int .i64 x3))))], []⟩
noncomputable def f22_p2_x : f22_p2_R → GExit := fun
  | .c0 => .ret
  | .c1 => (.exit 0)
noncomputable def f22_p2_s (x1 : List (List Int)) (x2 : List (List Int)) : f22_p2_R → GS := fun
  | .c0 => ⟨[(4, (.r (.at (.bool false))))], []⟩
  | .c1 => ⟨[], []⟩
def f22_p2_P (x1 : List (List Int)) (x2 : List (List Int)) (x3 : Int) (r : f22_p2_R) : Prop := Lp cx f22_M 27 (part Tryd.f22 2) (f22_p2_H x1 x2 x3) (f22_p2_x r) (f22_p2_s x1 x2 r)
noncomputable def f22_v : Bool → G := fun y0 => (.r (.at (.bool y0)))
noncomputable def f22_k0 : Bool → List (Nat × Blk) := fun y0 => []
noncomputable def f22_k (x1 : List (List Int)) (x2 : List (List Int)) : Bool → List (Nat × Blk) := fun y0 => []
noncomputable def f22_A (x1 : List (List Int)) (x2 : List (List Int)) : List G := [(.r (.at (.lst (.list (.int .i64)) x1 false))), (.r (.at (.lst (.list (.int .i64)) x2 false)))]
noncomputable def f22_K (x1 : List (List Int)) (x2 : List (List Int)) : List (Nat × Blk) := []
def f22_C (x1 : List (List Int)) (x2 : List (List Int)) (r : Bool) : Prop := CallOK cx 22 (f22_A x1 x2) (f22_K x1 x2) [] (f22_v r) (f22_k x1 x2 r)

def f14_M : List Nat := [20]
noncomputable def f14_v : Bool → G := fun y0 => (.r (.at (.bool y0)))
noncomputable def f14_k0 : Bool → List (Nat × Blk) := fun y0 => []
noncomputable def f14_k : Bool → List (Nat × Blk) := fun y0 => []
noncomputable def f14_A : List G := []
noncomputable def f14_K : List (Nat × Blk) := []
def f14_C (r : Bool) : Prop := CallOK cx 14 (f14_A) (f14_K) [] (f14_v r) (f14_k r)

def f31_M : List Nat := [37, 38, 39, 40, 41]
noncomputable def f31_p5_2_H (x20 : Int) (x1 : Int) (x3 : Int) (x21 : Int) (x2 : List Int) (x19 : List (List Int)) (x25 : Int) (x24 : List Int) : GS := ⟨[(2, (.r (.at (.ptr 37 0 0)))), (4, (.r (.at (.ptr 38 0 0)))), (5, (.r (.at (.ptr 39 0 0)))), (6, (.r (.at (.int .i64 x20)))), (7, (.r (.at (.sl 40 0 (List.length x24))))), (17, (.r (.at (.int .i64 (w64 (1 + (Int.tmod (w64 (x1)) x3))))))), (18, (.r (.at (.int .i64 x20)))), (24, (.r (.at (.int .i64 (iShl .i64 1 (w64 (x21 - 1))))))), (25, (.r (.at (.int .i64 x25))))], [(37, (.var [.cell (.int .u8 x1), .arr (.int .u8) 32 x2])), (38, (.var [.cell (.int .i64 0), .cell .nils])), (39, (.var [.cell (.int .i64 x21), .cell (.sl 41 0 (List.length x19))])), (40, (.gr (.int .i64) 3 x24 true)), (41, (.gr (.list (.int .i64)) 22 x19 true))]⟩
noncomputable def f31_p5_2_x : (List Int) → GExit := fun y0 => (.exit 2)
noncomputable def f31_p5_2_s (x20 : Int) (x1 : Int) (x3 : Int) (x21 : Int) (x2 : List Int) (x19 : List (List Int)) : (List Int) → GS := fun y0 => ⟨[(2, (.r (.at (.ptr 37 0 0)))), (4, (.r (.at (.ptr 38 0 0)))), (5, (.r (.at (.ptr 39 0 0)))), (7, (.r (.at (.sl 40 0 (List.length y0))))), (17, (.r (.at (.int .i64 (w64 (1 + (Int.tmod (w64 (x1)) x3))))))), (18, (.r (.at (.int .i64 x20))))], [(37, (.var [.cell (.int .u8 x1), .arr (.int .u8) 32 x2])), (38, (.var [.cell (.int .i64 0), .cell .nils])), (39, (.var [.cell (.int .i64 x21), .cell (.sl 41 0 (List.length x19))])), (40, (.gr (.int .i64) 3 y0 true)), (41, (.gr (.list (.int .i64)) 22 x19 true))]⟩
def f31_p5_2_P (x20 : Int) (x1 : Int) (x3 : Int) (x21 : Int) (x2 : List Int) (x19 : List (List Int)) (x25 : Int) (x24 : List Int) (r : (List Int)) : Prop := Lp cx f31_M 48 (part Tryd.f31 5) (f31_p5_2_H x20 x1 x3 x21 x2 x19 x25 x24) (f31_p5_2_x r) (f31_p5_2_s x20 x1 x3 x21 x2 x19 r)
noncomputable def f31_p1_H (x1 : Int) (x3 : Int) (x2 : List Int) (x20 : Int) (x21 : Int) (x19 : List (List Int)) : GS := ⟨[(2, (.r (.at (.ptr 37 0 0)))), (4, (.r (.at (.ptr 38 0 0)))), (5, (.r (.at (.ptr 39 0 0)))), (17, (.r (.at (.int .i64 (w64 (1 + (Int.tmod (w64 (x1)) x3))))))), (18, (.r (.at (.int .i64 x20))))], [(37, (.var [.cell (.int .u8 x1), .arr (.int .u8) 32 x2])), (38, (.var [.cell (.int .i64 0), .cell .nils])), (39, (.var [.cell (.int .i64 x21), .cell (.sl 41 0 (List.length x19))])), (41, (.gr (.list (.int .i64)) 22 x19 true))]⟩
noncomputable def f31_p1_x : (Int × (List (List Int))) → GExit := fun (y0, y1) => (.exit 0)
noncomputable def f31_p1_s (x1 : Int) (x3 : Int) (x2 : List Int) : (Int × (List (List Int))) → GS := fun (y0, y1) => ⟨[(4, (.r (.at (.ptr 38 0 0)))), (5, (.r (.at (.ptr 39 0 0))))], [(38, (.var [.cell (.int .i64 0), .cell .nils])), (39, (.var [.cell (.int .i64 y0), .cell (.sl 41 0 (List.length y1))])), (41, (.gr (.list (.int .i64)) 22 y1 true))]⟩
def f31_p1_P (x1 : Int) (x3 : Int) (x2 : List Int) (x20 : Int) (x21 : Int) (x19 : List (List Int)) (r : Int × (List (List Int))) : Prop := Lp cx f31_M 48 (part Tryd.f31 1) (f31_p1_H x1 x3 x2 x20 x21 x19) (f31_p1_x r) (f31_p1_s x1 x3 x2 r)
noncomputable def f31_v : (Int × (List (List Int))) → G := fun (y0, y1) => (.r (.agg [.cell (.int .i64 y0), .cell (.lst (.list (.int .i64)) y1 false)]))
noncomputable def f31_k0 : (Int × (List (List Int))) → List (Nat × Blk) := fun (y0, y1) => []
noncomputable def f31_k (x1 : Int) (x2 : List Int) (x3 : Int) : (Int × (List (List Int))) → List (Nat × Blk) := fun (y0, y1) => []
noncomputable def f31_A (x1 : Int) (x2 : List Int) (x3 : Int) : List G := [(.r (.agg [.cell (.int .u8 x1), .arr (.int .u8) 32 x2])), (.r (.at (.int .i64 x3)))]
noncomputable def f31_K (x1 : Int) (x2 : List Int) (x3 : Int) : List (Nat × Blk) := []
def f31_C (x1 : Int) (x2 : List Int) (x3 : Int) (r : Int × (List (List Int))) : Prop := CallOK cx 31 (f31_A x1 x2 x3) (f31_K x1 x2 x3) [] (f31_v r) (f31_k x1 x2 x3 r)

def f41_M : List Nat := []
noncomputable def f41_p4_H (x2 : Int) (x3 : Int) (x4 : Int) (x5 : Int) : GS := ⟨[(1, (.r (.at (.int .i64 x2)))), (2, (.r (.at (.int .i64 x3)))), (7, (.r (.at (.int .i64 x4)))), (8, (.r (.at (.int .i64 x5)))), (17, (.r (.at (.bool (x5 != x3)))))], []⟩
noncomputable def f41_p4_x : Int → GExit := fun y0 => .normal
noncomputable def f41_p4_s (x2 : Int) (x3 : Int) (x4 : Int) (x5 : Int) : Int → GS := fun y0 => ⟨[(1, (.r (.at (.int .i64 x2)))), (2, (.r (.at (.int .i64 x3)))), (7, (.r (.at (.int .i64 y0)))), (8, (.r (.at (.int .i64 x5))))], []⟩
def f41_p4_P (x2 : Int) (x3 : Int) (x4 : Int) (x5 : Int) (r : Int) : Prop := Ex cx f41_M 26 (part Tryd.f41 4) (f41_p4_H x2 x3 x4 x5) (f41_p4_x r) (f41_p4_s x2 x3 x4 x5 r)
noncomputable def f41_p1_H (x2 : Int) (x3 : Int) (x4 : Int) (x5 : Int) : GS := ⟨[(1, (.r (.at (.int .i64 x2)))), (2, (.r (.at (.int .i64 x3)))), (7, (.r (.at (.int .i64 x4)))), (8, (.r (.at (.int .i64 x5))))], []⟩
noncomputable def f41_p1_x : Int → GExit := fun y0 => (.exit 0)
noncomputable def f41_p1_s (x2 : Int) (x3 : Int) : Int → GS := fun y0 => ⟨[(7, (.r (.at (.int .i64 y0))))], []⟩
def f41_p1_P (x2 : Int) (x3 : Int) (x4 : Int) (x5 : Int) (r : Int) : Prop := Lp cx f41_M 26 (part Tryd.f41 1) (f41_p1_H x2 x3 x4 x5) (f41_p1_x r) (f41_p1_s x2 x3 r)
noncomputable def f41_v : Int → G := fun y0 => (.r (.at (.int .i64 y0)))
noncomputable def f41_k0 : Int → List (Nat × Blk) := fun y0 => []
noncomputable def f41_k (x1 : Int) (x2 : Int) (x3 : Int) : Int → List (Nat × Blk) := fun y0 => []
noncomputable def f41_A (x1 : Int) (x2 : Int) (x3 : Int) : List G := [(.r (.at (.int .i64 x1))), (.r (.at (.int .i64 x2))), (.r (.at (.int .i64 x3)))]
noncomputable def f41_K (x1 : Int) (x2 : Int) (x3 : Int) : List (Nat × Blk) := []
def f41_C (x1 : Int) (x2 : Int) (x3 : Int) (r : Int) : Prop := CallOK cx 41 (f41_A x1 x2 x3) (f41_K x1 x2 x3) [] (f41_v r) (f41_k x1 x2 x3 r)

def f43_M : List Nat := [57]
noncomputable def f43_p4_1_H (x1 : Int) (x3 : List Int) (x4 : Int) : GS := ⟨[(0, (.r (.at (.int .i64 x1)))), (3, (.r (.at (.sl 57 0 (List.length x3))))), (4, (.r (.at (.int .i64 x4)))), (15, (.r (.at (.bool ((iAnd .i64 (iShr .i64 x1 x4) 1) == 1)))))], [(57, (.gr (.int .i64) 3 x3 true))]⟩
noncomputable def f43_p4_1_x : (List Int) → GExit := fun y0 => .normal
noncomputable def f43_p4_1_s (x1 : Int) (x3 : List Int) (x4 : Int) : (List Int) → GS := fun y0 => ⟨[(0, (.r (.at (.int .i64 x1)))), (3, (.r (.at (.sl 57 0 (List.length y0))))), (4, (.r (.at (.int .i64 x4))))], [(57, (.gr (.int .i64) 3 y0 true))]⟩
def f43_p4_1_P (x1 : Int) (x3 : List Int) (x4 : Int) (r : (List Int)) : Prop := Ex cx f43_M 21 (part Tryd.f43 4) (f43_p4_1_H x1 x3 x4) (f43_p4_1_x r) (f43_p4_1_s x1 x3 x4 r)
noncomputable def f43_p1_H (x1 : Int) (x4 : Int) (x3 : List Int) : GS := ⟨[(0, (.r (.at (.int .i64 x1)))), (3, (.r (.at (.sl 57 0 (List.length x3))))), (4, (.r (.at (.int .i64 x4))))], [(57, (.gr (.int .i64) 3 x3 true))]⟩
noncomputable def f43_p1_x : (List Int) → GExit := fun y0 => (.exit 0)
noncomputable def f43_p1_s (x1 : Int) : (List Int) → GS := fun y0 => ⟨[(3, (.r (.at (.sl 57 0 (List.length y0)))))], [(57, (.gr (.int .i64) 3 y0 true))]⟩
def f43_p1_P (x1 : Int) (x4 : Int) (x3 : List Int) (r : (List Int)) : Prop := Lp cx f43_M 21 (part Tryd.f43 1) (f43_p1_H x1 x4 x3) (f43_p1_x r) (f43_p1_s x1 r)
noncomputable def f43_v : (List Int) → G := fun y0 => (.r (.at (.lst (.int .i64) y0 false)))
noncomputable def f43_k0 : (List Int) → List (Nat × Blk) := fun y0 => []
noncomputable def f43_k (x1 : Int) : (List Int) → List (Nat × Blk) := fun y0 => []
noncomputable def f43_A (x1 : Int) : List G := [(.r (.at (.int .i64 x1)))]
noncomputable def f43_K (x1 : Int) : List (Nat × Blk) := []
def f43_C (x1 : Int) (r : (List Int)) : Prop := CallOK cx 43 (f43_A x1) (f43_K x1) [] (f43_v r) (f43_k x1 r)

def f93_M : List Nat := []
noncomputable def f93_v : Bool → G := fun y0 => (.r (.at (.bool y0)))
noncomputable def f93_k0 : Bool → List (Nat × Blk) := fun y0 => []
noncomputable def f93_k (x1 : Int) : Bool → List (Nat × Blk) := fun y0 => []
noncomputable def f93_A (x1 : Int) : List G := [(.r (.at (.int .i64 x1)))]
noncomputable def f93_K (x1 : Int) : List (Nat × Blk) := []
def f93_C (x1 : Int) (r : Bool) : Prop := CallOK cx 93 (f93_A x1) (f93_K x1) [] (f93_v r) (f93_k x1 r)

def f83_M : List Nat := []
noncomputable def f83_v : Bool → G := fun y0 => (.r (.at (.bool y0)))
noncomputable def f83_k0 : Bool → List (Nat × Blk) := fun y0 => []
noncomputable def f83_k (x1 : Int) (x2 : Int) : Bool → List (Nat × Blk) := fun y0 => []
noncomputable def f83_A (x1 : Int) (x2 : Int) : List G := [(.r (.at (.int .i64 x1))), (.r (.at (.int .i64 x2)))]
noncomputable def f83_K (x1 : Int) (x2 : Int) : List (Nat × Blk) := []
def f83_C (x1 : Int) (x2 : Int) (r : Bool) : Prop := CallOK cx 83 (f83_A x1 x2) (f83_K x1 x2) [] (f83_v r) (f83_k x1 x2 r)

def f103_M : List Nat := []
noncomputable def f103_p0_H (x1 : Int) : GS := ⟨[(0, (.r (.at (.int .u64 x1)))), (2, (.r (.at (.int .i64 0)))), (4, (.r (.at (.bool (decide (x1 ≥ 4294967296))))))], []⟩
noncomputable def f103_p0_x : (Int × Int) → GExit := fun (y0, y1) => .normal
noncomputable def f103_p0_s (x1 : Int) : (Int × Int) → GS := fun (y0, y1) => ⟨[(0, (.r (.at (.int .u64 y0)))), (2, (.r (.at (.int .i64 y1))))], []⟩
def f103_p0_P (x1 : Int) (r : Int × Int) : Prop := Ex cx f103_M 25 (part Tryd.f103 0) (f103_p0_H x1) (f103_p0_x r) (f103_p0_s x1 r)
noncomputable def f103_p1_H (x2 : Int) (x3 : Int) : GS := ⟨[(0, (.r (.at (.int .u64 x2)))), (2, (.r (.at (.int .i64 x3)))), (8, (.r (.at (.bool (decide (x2 ≥ 65536))))))], []⟩
noncomputable def f103_p1_x : (Int × Int) → GExit := fun (y0, y1) => .normal
noncomputable def f103_p1_s (x2 : Int) (x3 : Int) : (Int × Int) → GS := fun (y0, y1) => ⟨[(0, (.r (.at (.int .u64 y0)))), (2, (.r (.at (.int .i64 y1))))], []⟩
def f103_p1_P (x2 : Int) (x3 : Int) (r : Int × Int) : Prop := Ex cx f103_M 25 (part Tryd.f103 1) (f103_p1_H x2 x3) (f103_p1_x r) (f103_p1_s x2 x3 r)
noncomputable def f103_p2_H (x4 : Int) (x5 : Int) : GS := ⟨[(0, (.r (.at (.int .u64 x4)))), (2, (.r (.at (.int .i64 x5)))), (14, (.r (.at (.bool (decide (x4 ≥ 256))))))], []⟩
noncomputable def f103_p2_x : (Int × Int) → GExit := fun (y0, y1) => .normal
noncomputable def f103_p2_s (x4 : Int) (x5 : Int) : (Int × Int) → GS := fun (y0, y1) => ⟨[(0, (.r (.at (.int .u64 y0)))), (2, (.r (.at (.int .i64 y1))))], []⟩
def f103_p2_P (x4 : Int) (x5 : Int) (r : Int × Int) : Prop := Ex cx f103_M 25 (part Tryd.f103 2) (f103_p2_H x4 x5) (f103_p2_x r) (f103_p2_s x4 x5 r)
noncomputable def f103_v : Int → G := fun y0 => (.r (.at (.int .i64 y0)))
noncomputable def f103_k0 : Int → List (Nat × Blk) := fun y0 => []
noncomputable def f103_k (x1 : Int) : Int → List (Nat × Blk) := fun y0 => []
noncomputable def f103_A (x1 : Int) : List G := [(.r (.at (.int .u64 x1)))]
noncomputable def f103_K (x1 : Int) : List (Nat × Blk) := []
def f103_C (x1 : Int) (r : Int) : Prop := CallOK cx 103 (f103_A x1) (f103_K x1) [] (f103_v r) (f103_k x1 r)

def f86_M : List Nat := []
noncomputable def f86_v : Int → G := fun y0 => (.r (.at (.int .i64 y0)))
noncomputable def f86_k0 : Int → List (Nat × Blk) := fun y0 => []
noncomputable def f86_k (x1 : Int) : Int → List (Nat × Blk) := fun y0 => []
noncomputable def f86_A (x1 : Int) : List G := [(.r (.at (.int .u64 x1)))]
noncomputable def f86_K (x1 : Int) : List (Nat × Blk) := []
def f86_C (x1 : Int) (r : Int) : Prop := CallOK cx 86 (f86_A x1) (f86_K x1) [] (f86_v r) (f86_k x1 r)

def f94_M : List Nat := []
noncomputable def f94_p5_1_H (x1 : Nat) (x2 : Nat) (x3 : Int) (x4 : Int) (x18 : Int) (x24 : Int) (x23 : List Int) : GS := ⟨[(0, (.r (.at (.sl 76 x1 x2)))), (1, (.r (.at (.int .i64 x3)))), (2, (.r (.at (.int .i64 x4)))), (6, (.r (.at (.int .i64 x18)))), (7, (.r (.at (.int .i64 x24))))], [(76, (.gr (.int .i64) 3 x23 true))]⟩
noncomputable def f94_p5_1_x : (List Int) → GExit := fun y0 => (.exit 2)
noncomputable def f94_p5_1_s (x1 : Nat) (x2 : Nat) (x3 : Int) (x4 : Int) (x18 : Int) : (List Int) → GS := fun y0 => ⟨[(0, (.r (.at (.sl 76 x1 x2)))), (1, (.r (.at (.int .i64 x3)))), (2, (.r (.at (.int .i64 x4)))), (6, (.r (.at (.int .i64 x18))))], [(76, (.gr (.int .i64) 3 y0 true))]⟩
def f94_p5_1_P (x1 : Nat) (x2 : Nat) (x3 : Int) (x4 : Int) (x18 : Int) (x24 : Int) (x23 : List Int) (r : (List Int)) : Prop := Lp cx f94_M 49 (part Tryd.f94 5) (f94_p5_1_H x1 x2 x3 x4 x18 x24 x23) (f94_p5_1_x r) (f94_p5_1_s x1 x2 x3 x4 x18 r)
noncomputable def f94_p1_H (x1 : Nat) (x2 : Nat) (x3 : Int) (x4 : Int) (x18 : Int) (x17 : List Int) : GS := ⟨[(0, (.r (.at (.sl 76 x1 x2)))), (1, (.r (.at (.int .i64 x3)))), (2, (.r (.at (.int .i64 x4)))), (6, (.r (.at (.int .i64 x18))))], [(76, (.gr (.int .i64) 3 x17 true))]⟩
noncomputable def f94_p1_x : (List Int) → GExit := fun y0 => (.exit 0)
noncomputable def f94_p1_s (x1 : Nat) (x2 : Nat) (x3 : Int) (x4 : Int) : (List Int) → GS := fun y0 => ⟨[], [(76, (.gr (.int .i64) 3 y0 true))]⟩
def f94_p1_P (x1 : Nat) (x2 : Nat) (x3 : Int) (x4 : Int) (x18 : Int) (x17 : List Int) (r : (List Int)) : Prop := Lp cx f94_M 49 (part Tryd.f94 1) (f94_p1_H x1 x2 x3 x4 x18 x17) (f94_p1_x r) (f94_p1_s x1 x2 x3 x4 r)
noncomputable def f94_v : (List Int) → G := fun y0 => (.r (.at .unit0))
noncomputable def f94_k0 : (List Int) → List (Nat × Blk) := fun y0 => [(76, (.gr (.int .i64) 3 y0 true))]
noncomputable def f94_k (x1 : Nat) (x2 : Nat) (x3 : Int) (x4 : Int) (x5 : List Int) : (List Int) → List (Nat × Blk) := fun y0 => [(76, (.gr (.int .i64) 3 y0 true))]
noncomputable def f94_A (x1 : Nat) (x2 : Nat) (x3 : Int) (x4 : Int) (x5 : List Int) : List G := [(.r (.at (.sl 76 x1 x2))), (.r (.at (.int .i64 x3))), (.r (.at (.int .i64 x4)))]
noncomputable def f94_K (x1 : Nat) (x2 : Nat) (x3 : Int) (x4 : Int) (x5 : List Int) : List (Nat × Blk) := [(76, (.gr (.int .i64) 3 x5 true))]
def f94_C (x1 : Nat) (x2 : Nat) (x3 : Int) (x4 : Int) (x5 : List Int) (r : (List Int)) : Prop := CallOK cx 94 (f94_A x1 x2 x3 x4 x5) (f94_K x1 x2 x3 x4 x5) [] (f94_v r) (f94_k x1 x2 x3 x4 x5 r)

def f85_M : List Nat := []
noncomputable def f85_p5_1_H (x1 : Nat) (x2 : Nat) (x14 : Int) (x15 : Int) (x16 : Int) (x17 : Bool) (x18 : Bool) (x13 : List Int) : GS := ⟨[(0, (.r (.at (.sl 76 x1 x2)))), (1, (.r (.at (.int .i64 x14)))), (2, (.r (.at (.int .i64 x15)))), (3, (.r (.at (.int .i64 x16)))), (8, (.r (.at (.bool x17)))), (9, (.r (.at (.bool x18)))), (10, (.r (.at (.int .i64 (w64 (x15 - x14)))))), (35, (.r (.at (.bool (!x17)))))], [(76, (.gr (.int .i64) 3 x13 true))]⟩
noncomputable def f85_p5_1_x : Unit → GExit := fun _ => .normal
noncomputable def f85_p5_1_s (x1 : Nat) (x2 : Nat) (x14 : Int) (x15 : Int) (x16 : Int) (x17 : Bool) (x18 : Bool) (x13 : List Int) : Unit → GS := fun _ => ⟨[(0, (.r (.at (.sl 76 x1 x2)))), (1, (.r (.at (.int .i64 x14)))), (2, (.r (.at (.int .i64 x15)))), (3, (.r (.at (.int .i64 x16)))), (8, (.r (.at (.bool x17)))), (9, (.r (.at (.bool x18)))), (10, (.r (.at (.int .i64 (w64 (x15 - x14))))))], [(76, (.gr (.int .i64) 3 x13 true))]⟩
def f85_p5_1_P (x1 : Nat) (x2 : Nat) (x14 : Int) (x15 : Int) (x16 : Int) (x17 : Bool) (x18 : Bool) (x13 : List Int) (r : Unit) : Prop := Ex cx f85_M 134 (part Tryd.f85 5) (f85_p5_1_H x1 x2 x14 x15 x16 x17 x18 x13) (f85_p5_1_x r) (f85_p5_1_s x1 x2 x14 x15 x16 x17 x18 x13 r)
noncomputable def f85_p1_H (x1 : Nat) (x2 : Nat) (x14 : Int) (x15 : Int) (x16 : Int) (x17 : Bool) (x18 : Bool) (x13 : List Int) : GS := ⟨[(0, (.r (.at (.sl 76 x1 x2)))), (1, (.r (.at (.int .i64 x14)))), (2, (.r (.at (.int .i64 x15)))), (3, (.r (.at (.int .i64 x16)))), (8, (.r (.at (.bool x17)))), (9, (.r (.at (.bool x18))))], [(76, (.gr (.int .i64) 3 x13 true))]⟩
noncomputable def f85_p1_x : (List Int) → GExit := fun y0 => .ret
noncomputable def f85_p1_s (x1 : Nat) (x2 : Nat) : (List Int) → GS := fun y0 => ⟨[], [(76, (.gr (.int .i64) 3 y0 true))]⟩
def f85_p1_P (x1 : Nat) (x2 : Nat) (x14 : Int) (x15 : Int) (x16 : Int) (x17 : Bool) (x18 : Bool) (x13 : List Int) (r : (List Int)) : Prop := Lp cx f85_M 134 (part Tryd.f85 1) (f85_p1_H x1 x2 x14 x15 x16 x17 x18 x13) (f85_p1_x r) (f85_p1_s x1 x2 r)
noncomputable def f85_v : (List Int) → G := fun y0 => (.r (.at .unit0))
noncomputable def f85_k0 : (List Int) → List (Nat × Blk) := fun y0 => [(76, (.gr (.int .i64) 3 y0 true))]
noncomputable def f85_k (x1 : Nat) (x2 : Nat) (x3 : Int) (x4 : Int) (x5 : Int) (x6 : List Int) : (List Int) → List (Nat × Blk) := fun y0 => [(76, (.gr (.int .i64) 3 y0 true))]
noncomputable def f85_A (x1 : Nat) (x2 : Nat) (x3 : Int) (x4 : Int) (x5 : Int) (x6 : List Int) : List G := [(.r (.at (.sl 76 x1 x2))), (.r (.at (.int .i64 x3))), (.r (.at (.int .i64 x4))), (.r (.at (.int .i64 x5)))]
noncomputable def f85_K (x1 : Nat) (x2 : Nat) (x3 : Int) (x4 : Int) (x5 : Int) (x6 : List Int) : List (Nat × Blk) := [(76, (.gr (.int .i64) 3 x6 true))]
def f85_C (x1 : Nat) (x2 : Nat) (x3 : Int) (x4 : Int) (x5 : Int) (x6 : List Int) (r : (List Int)) : Prop := CallOK cx 85 (f85_A x1 x2 x3 x4 x5 x6) (f85_K x1 x2 x3 x4 x5 x6) [] (f85_v r) (f85_k x1 x2 x3 x4 x5 x6 r)

def f55_M : List Nat := []
noncomputable def f55_v : (List Int) → G := fun y0 => (.r (.at .unit0))
noncomputable def f55_k0 : (List Int) → List (Nat × Blk) := fun y0 => [(76, (.gr (.int .i64) 3 y0 true))]
noncomputable def f55_k (x1 : Nat) (x2 : Nat) (x3 : List Int) : (List Int) → List (Nat × Blk) := fun y0 => [(76, (.gr (.int .i64) 3 y0 true))]
noncomputable def f55_A (x1 : Nat) (x2 : Nat) (x3 : List Int) : List G := [(.r (.at (.sl 76 x1 x2)))]
noncomputable def f55_K (x1 : Nat) (x2 : Nat) (x3 : List Int) : List (Nat × Blk) := [(76, (.gr (.int .i64) 3 x3 true))]
def f55_C (x1 : Nat) (x2 : Nat) (x3 : List Int) (r : (List Int)) : Prop := CallOK cx 55 (f55_A x1 x2 x3) (f55_K x1 x2 x3) [] (f55_v r) (f55_k x1 x2 x3 r)

def f94_1_M : List Nat := []
noncomputable def f94_1_p5_1_H (x1 : Nat) (x2 : Nat) (x3 : Int) (x4 : Int) (x18 : Int) (x24 : Int) (x23 : List Int) : GS := ⟨[(0, (.r (.at (.sl 77 x1 x2)))), (1, (.r (.at (.int .i64 x3)))), (2, (.r (.at (.int .i64 x4)))), (6, (.r (.at (.int .i64 x18)))), (7, (.r (.at (.int .i64 x24))))], [(77, (.gr (.int .i64) 3 x23 true))]⟩
noncomputable def f94_1_p5_1_x : (List Int) → GExit := fun y0 => (.exit 2)
noncomputable def f94_1_p5_1_s (x1 : Nat) (x2 : Nat) (x3 : Int) (x4 : Int) (x18 : Int) : (List Int) → GS := fun y0 => ⟨[(0, (.r (.at (.sl 77 x1 x2)))), (1, (.r (.at (.int .i64 x3)))), (2, (.r (.at (.int .i64 x4)))), (6, (.r (.at (.int .i64 x18))))], [(77, (.gr (.int .i64) 3 y0 true))]⟩
def f94_1_p5_1_P (x1 : Nat) (x2 : Nat) (x3 : Int) (x4 : Int) (x18 : Int) (x24 : Int) (x23 : List Int) (r : (List Int)) : Prop := Lp cx f94_1_M 49 (part Tryd.f94 5) (f94_1_p5_1_H x1 x2 x3 x4 x18 x24 x23) (f94_1_p5_1_x r) (f94_1_p5_1_s x1 x2 x3 x4 x18 r)
noncomputable def f94_1_p1_H (x1 : Nat) (x2 : Nat) (x3 : Int) (x4 : Int) (x18 : Int) (x17 : List Int) : GS := ⟨[(0, (.r (.at (.sl 77 x1 x2)))), (1, (.r (.at (.int .i64 x3)))), (2, (.r (.at (.int .i64 x4)))), (6, (.r (.at (.int .i64 x18))))], [(77, (.gr (.int .i64) 3 x17 true))]⟩
noncomputable def f94_1_p1_x : (List Int) → GExit := fun y0 => (.exit 0)
noncomputable def f94_1_p1_s (x1 : Nat) (x2 : Nat) (x3 : Int) (x4 : Int) : (List Int) → GS := fun y0 => ⟨[], [(77, (.gr (.int .i64) 3 y0 true))]⟩
def f94_1_p1_P (x1 : Nat) (x2 : Nat) (x3 : Int) (x4 : Int) (x18 : Int) (x17 : List Int) (r : (List Int)) : Prop := Lp cx f94_1_M 49 (part Tryd.f94 1) (f94_1_p1_H x1 x2 x3 x4 x18 x17) (f94_1_p1_x r) (f94_1_p1_s x1 x2 x3 x4 r)
noncomputable def f94_1_v : (List Int) → G := fun y0 => (.r (.at .unit0))
noncomputable def f94_1_k0 : (List Int) → List (Nat × Blk) := fun y0 => [(77, (.gr (.int .i64) 3 y0 true))]
noncomputable def f94_1_k (x1 : Nat) (x2 : Nat) (x3 : Int) (x4 : Int) (x5 : List Int) : (List Int) → List (Nat × Blk) := fun y0 => [(77, (.gr (.int .i64) 3 y0 true))]
noncomputable def f94_1_A (x1 : Nat) (x2 : Nat) (x3 : Int) (x4 : Int) (x5 : List Int) : List G := [(.r (.at (.sl 77 x1 x2))), (.r (.at (.int .i64 x3))), (.r (.at (.int .i64 x4)))]
noncomputable def f94_1_K (x1 : Nat) (x2 : Nat) (x3 : Int) (x4 : Int) (x5 : List Int) : List (Nat × Blk) := [(77, (.gr (.int .i64) 3 x5 true))]
def f94_1_C (x1 : Nat) (x2 : Nat) (x3 : Int) (x4 : Int) (x5 : List Int) (r : (List Int)) : Prop := CallOK cx 94 (f94_1_A x1 x2 x3 x4 x5) (f94_1_K x1 x2 x3 x4 x5) [] (f94_1_v r) (f94_1_k x1 x2 x3 x4 x5 r)

def f85_1_M : List Nat := []
noncomputable def f85_1_p5_1_H (x1 : Nat) (x2 : Nat) (x14 : Int) (x15 : Int) (x16 : Int) (x17 : Bool) (x18 : Bool) (x13 : List Int) : GS := ⟨[(0, (.r (.at (.sl 77 x1 x2)))), (1, (.r (.at (.int .i64 x14)))), (2, (.r (.at (.int .i64 x15)))), (3, (.r (.at (.int .i64 x16)))), (8, (.r (.at (.bool x17)))), (9, (.r (.at (.bool x18)))), (10, (.r (.at (.int .i64 (w64 (x15 - x14)))))), (35, (.r (.at (.bool (!x17)))))], [(77, (.gr (.int .i64) 3 x13 true))]⟩
noncomputable def f85_1_p5_1_x : Unit → GExit := fun _ => .normal
noncomputable def f85_1_p5_1_s (x1 : Nat) (x2 : Nat) (x14 : Int) (x15 : Int) (x16 : Int) (x17 : Bool) (x18 : Bool) (x13 : List Int) : Unit → GS := fun _ => ⟨[(0, (.r (.at (.sl 77 x1 x2)))), (1, (.r (.at (.int .i64 x14)))), (2, (.r (.at (.int .i64 x15)))), (3, (.r (.at (.int .i64 x16)))), (8, (.r (.at (.bool x17)))), (9, (.r (.at (.bool x18)))), (10, (.r (.at (.int .i64 (w64 (x15 - x14))))))], [(77, (.gr (.int .i64) 3 x13 true))]⟩
def f85_1_p5_1_P (x1 : Nat) (x2 : Nat) (x14 : Int) (x15 : Int) (x16 : Int) (x17 : Bool) (x18 : Bool) (x13 : List Int) (r : Unit) : Prop := Ex cx f85_1_M 134 (part Tryd.f85 5) (f85_1_p5_1_H x1 x2 x14 x15 x16 x17 x18 x13) (f85_1_p5_1_x r) (f85_1_p5_1_s x1 x2 x14 x15 x16 x17 x18 x13 r)
noncomputable def f85_1_p1_H (x1 : Nat) (x2 : Nat) (x14 : Int) (x15 : Int) (x16 : Int) (x17 : Bool) (x18 : Bool) (x13 : List Int) : GS := ⟨[(0, (.r (.at (.sl 77 x1 x2)))), (1, (.r (.at (.int .i64 x14)))), (2, (.r (.at (.int .i64 x15)))), (3, (.r (.at (.int .i64 x16)))), (8, (.r (.at (.bool x17)))), (9, (.r (.at (.bool x18))))], [(77, (.gr (.int .i64) 3 x13 true))]⟩
noncomputable def f85_1_p1_x : (List Int) → GExit := fun y0 => .ret
noncomputable def f85_1_p1_s (x1 : Nat) (x2 : Nat) : (List Int) → GS := fun y0 => ⟨[], [(77, (.gr (.int .i64) 3 y0 true))]⟩
def f85_1_p1_P (x1 : Nat) (x2 : Nat) (x14 : Int) (x15 : Int) (x16 : Int) (x17 : Bool) (x18 : Bool) (x13 : List Int) (r : (List Int)) : Prop := Lp cx f85_1_M 134 (part Tryd.f85 1) (f85_1_p1_H x1 x2 x14 x15 x16 x17 x18 x13) (f85_1_p1_x r) (f85_1_p1_s x1 x2 r)
noncomputable def f85_1_v : (List Int) → G := fun y0 => (.r (.at .unit0))
noncomputable def f85_1_k0 : (List Int) → List (Nat × Blk) := fun y0 => [(77, (.gr (.int .i64) 3 y0 true))]
noncomputable def f85_1_k (x1 : Nat) (x2 : Nat) (x3 : Int) (x4 : Int) (x5 : Int) (x6 : List Int) : (List Int) → List (Nat × Blk) := fun y0 => [(77, (.gr (.int .i64) 3 y0 true))]
noncomputable def f85_1_A (x1 : Nat) (x2 : Nat) (x3 : Int) (x4 : Int) (x5 : Int) (x6 : List Int) : List G := [(.r (.at (.sl 77 x1 x2))), (.r (.at (.int .i64 x3))), (.r (.at (.int .i64 x4))), (.r (.at (.int .i64 x5)))]
noncomputable def f85_1_K (x1 : Nat) (x2 : Nat) (x3 : Int) (x4 : Int) (x5 : Int) (x6 : List Int) : List (Nat × Blk) := [(77, (.gr (.int .i64) 3 x6 true))]
def f85_1_C (x1 : Nat) (x2 : Nat) (x3 : Int) (x4 : Int) (x5 : Int) (x6 : List Int) (r : (List Int)) : Prop := CallOK cx 85 (f85_1_A x1 x2 x3 x4 x5 x6) (f85_1_K x1 x2 x3 x4 x5 x6) [] (f85_1_v r) (f85_1_k x1 x2 x3 x4 x5 x6 r)

def f55_1_M : List Nat := []
noncomputable def f55_1_v : (List Int) → G := fun y0 => (.r (.at .unit0))
noncomputable def f55_1_k0 : (List Int) → List (Nat × Blk) := fun y0 => [(77, (.gr (.int .i64) 3 y0 true))]
noncomputable def f55_1_k (x1 : Nat) (x2 : Nat) (x3 : List Int) : (List Int) → List (Nat × Blk) := fun y0 => [(77, (.gr (.int .i64) 3 y0 true))]
noncomputable def f55_1_A (x1 : Nat) (x2 : Nat) (x3 : List Int) : List G := [(.r (.at (.sl 77 x1 x2)))]
noncomputable def f55_1_K (x1 : Nat) (x2 : Nat) (x3 : List Int) : List (Nat × Blk) := [(77, (.gr (.int .i64) 3 x3 true))]
def f55_1_C (x1 : Nat) (x2 : Nat) (x3 : List Int) (r : (List Int)) : Prop := CallOK cx 55 (f55_1_A x1 x2 x3) (f55_1_K x1 x2 x3) [] (f55_1_v r) (f55_1_k x1 x2 x3 r)

def f17_2_M : List Nat := [78]
noncomputable def f17_2_p5_1_H (x7 : List Int) (x8 : Int) (x3 : List Int) (x9 : Int) : GS := ⟨[(8, (.r (.at (.sl 78 0 (List.length x7))))), (9, (.r (.at (.int .i64 x8)))), (20, (.r (.at (.lst (.int .i64) x3 false)))), (21, (.r (.at (.int .i64 ((List.length x3 : Nat) : Int))))), (22, (.r (.at (.int .i64 x8)))), (28, (.r (.at (.bool (x9 == 0)))))], [(78, (.gr (.int .i64) 3 x7 true))]⟩
noncomputable def f17_2_p5_1_x : (List Int) → GExit := fun y0 => .normal
noncomputable def f17_2_p5_1_s (x7 : List Int) (x8 : Int) (x3 : List Int) (x9 : Int) : (List Int) → GS := fun y0 => ⟨[(8, (.r (.at (.sl 78 0 (List.length y0))))), (20, (.r (.at (.lst (.int .i64) x3 false)))), (21, (.r (.at (.int .i64 ((List.length x3 : Nat) : Int))))), (22, (.r (.at (.int .i64 x8))))], [(78, (.gr (.int .i64) 3 y0 true))]⟩
def f17_2_p5_1_P (x7 : List Int) (x8 : Int) (x3 : List Int) (x9 : Int) (r : (List Int)) : Prop := Ex cx f17_2_M 35 (part Tryd.f17 5) (f17_2_p5_1_H x7 x8 x3 x9) (f17_2_p5_1_x r) (f17_2_p5_1_s x7 x8 x3 x9 r)
noncomputable def f17_2_p2_H (x3 : List Int) (x8 : Int) (x7 : List Int) : GS := ⟨[(8, (.r (.at (.sl 78 0 (List.length x7))))), (20, (.r (.at (.lst (.int .i64) x3 false)))), (21, (.r (.at (.int .i64 ((List.length x3 : Nat) : Int))))), (22, (.r (.at (.int .i64 x8))))], [(78, (.gr (.int .i64) 3 x7 true))]⟩
noncomputable def f17_2_p2_x : (List Int) → GExit := fun y0 => (.exit 0)
noncomputable def f17_2_p2_s (x3 : List Int) : (List Int) → GS := fun y0 => ⟨[(8, (.r (.at (.sl 78 0 (List.length y0)))))], [(78, (.gr (.int .i64) 3 y0 true))]⟩
def f17_2_p2_P (x3 : List Int) (x8 : Int) (x7 : List Int) (r : (List Int)) : Prop := Lp cx f17_2_M 35 (part Tryd.f17 2) (f17_2_p2_H x3 x8 x7) (f17_2_p2_x r) (f17_2_p2_s x3 r)
noncomputable def f17_2_v : (Int × (List Int)) → G := fun (y0, y1) => (.tup [(.at (.sl 78 0 (List.length y1))), (.at (.int .i64 y0))])
noncomputable def f17_2_k0 : (Int × (List Int)) → List (Nat × Blk) := fun (y0, y1) => [(78, (.gr (.int .i64) 3 y1 true))]
noncomputable def f17_2_k (x1 : Int) (x2 : List Int) : (Int × (List Int)) → List (Nat × Blk) := fun (y0, y1) => [(78, (.gr (.int .i64) 3 y1 true))]
noncomputable def f17_2_A (x1 : Int) (x2 : List Int) : List G := [(.r (.at (.int .i64 x1))), (.r (.at (.lst (.int .i64) x2 false)))]
noncomputable def f17_2_K (x1 : Int) (x2 : List Int) : List (Nat × Blk) := []
def f17_2_C (x1 : Int) (x2 : List Int) (r : Int × (List Int)) : Prop := CallOK cx 17 (f17_2_A x1 x2) (f17_2_K x1 x2) [] (f17_2_v r) (f17_2_k x1 x2 r)

def f17_3_M : List Nat := [79]
noncomputable def f17_3_p5_1_H (x7 : List Int) (x8 : Int) (x3 : List Int) (x9 : Int) : GS := ⟨[(8, (.r (.at (.sl 79 0 (List.length x7))))), (9, (.r (.at (.int .i64 x8)))), (20, (.r (.at (.lst (.int .i64) x3 false)))), (21, (.r (.at (.int .i64 ((List.length x3 : Nat) : Int))))), (22, (.r (.at (.int .i64 x8)))), (28, (.r (.at (.bool (x9 == 0)))))], [(79, (.gr (.int .i64) 3 x7 true))]⟩
noncomputable def f17_3_p5_1_x : (List Int) → GExit := fun y0 => .normal
noncomputable def f17_3_p5_1_s (x7 : List Int) (x8 : Int) (x3 : List Int) (x9 : Int) : (List Int) → GS := fun y0 => ⟨[(8, (.r (.at (.sl 79 0 (List.length y0))))), (20, (.r (.at (.lst (.int .i64) x3 false)))), (21, (.r (.at (.int .i64 ((List.length x3 : Nat) : Int))))), (22, (.r (.at (.int .i64 x8))))], [(79, (.gr (.int .i64) 3 y0 true))]⟩
def f17_3_p5_1_P (x7 : List Int) (x8 : Int) (x3 : List Int) (x9 : Int) (r : (List Int)) : Prop := Ex cx f17_3_M 35 (part Tryd.f17 5) (f17_3_p5_1_H x7 x8 x3 x9) (f17_3_p5_1_x r) (f17_3_p5_1_s x7 x8 x3 x9 r)
noncomputable def f17_3_p2_H (x3 : List Int) (x8 : Int) (x7 : List Int) : GS := ⟨[(8, (.r (.at (.sl 79 0 (List.length x7))))), (20, (.r (.at (.lst (.int .i64) x3 false)))), (21, (.r (.at (.int .i64 ((List.length x3 : Nat) : Int))))), (22, (.r (.at (.int .i64 x8))))], [(79, (.gr (.int .i64) 3 x7 true))]⟩
noncomputable def f17_3_p2_x : (List Int) → GExit := fun y0 => (.exit 0)
noncomputable def f17_3_p2_s (x3 : List Int) : (List Int) → GS := fun y0 => ⟨[(8, (.r (.at (.sl 79 0 (List.length y0)))))], [(79, (.gr (.int .i64) 3 y0 true))]⟩
def f17_3_p2_P (x3 : List Int) (x8 : Int) (x7 : List Int) (r : (List Int)) : Prop := Lp cx f17_3_M 35 (part Tryd.f17 2) (f17_3_p2_H x3 x8 x7) (f17_3_p2_x r) (f17_3_p2_s x3 r)
noncomputable def f17_3_v : (Int × (List Int)) → G := fun (y0, y1) => (.tup [(.at (.sl 79 0 (List.length y1))), (.at (.int .i64 y0))])
noncomputable def f17_3_k0 : (Int × (List Int)) → List (Nat × Blk) := fun (y0, y1) => [(79, (.gr (.int .i64) 3 y1 true))]
noncomputable def f17_3_k (x1 : Int) (x2 : List Int) : (Int × (List Int)) → List (Nat × Blk) := fun (y0, y1) => [(79, (.gr (.int .i64) 3 y1 true))]
noncomputable def f17_3_A (x1 : Int) (x2 : List Int) : List G := [(.r (.at (.int .i64 x1))), (.r (.at (.lst (.int .i64) x2 false)))]
noncomputable def f17_3_K (x1 : Int) (x2 : List Int) : List (Nat × Blk) := []
def f17_3_C (x1 : Int) (x2 : List Int) (r : Int × (List Int)) : Prop := CallOK cx 17 (f17_3_A x1 x2) (f17_3_K x1 x2) [] (f17_3_v r) (f17_3_k x1 x2 r)

def f56_M : List Nat := [84]
noncomputable def f56_v : (List Int) → G := fun y0 => (.r (.at (.sl 84 0 (List.length y0))))
noncomputable def f56_k0 : (List Int) → List (Nat × Blk) := fun y0 => [(84, (.gr (.int .i64) 3 y0 true))]
noncomputable def f56_k (x1 : List Int) : (List Int) → List (Nat × Blk) := fun y0 => [(84, (.gr (.int .i64) 3 y0 true))]
noncomputable def f56_A (x1 : List Int) : List G := [(.r (.at (.lst (.int .i64) x1 false)))]
noncomputable def f56_K (x1 : List Int) : List (Nat × Blk) := []
def f56_C (x1 : List Int) (r : (List Int)) : Prop := CallOK cx 56 (f56_A x1) (f56_K x1) [] (f56_v r) (f56_k x1 r)

def f57_1_M : List Nat := [86]
noncomputable def f57_1_p0_H (x1 : List Int) (x2 : Int) : GS := ⟨[(0, (.r (.at (.lst (.int .i64) x1 false)))), (1, (.r (.at (.int .i64 x2)))), (10, (.r (.at (.bool (decide (x2 < 0))))))], []⟩
noncomputable def f57_1_p0_x : Unit → GExit := fun _ => .normal
noncomputable def f57_1_p0_s (x1 : List Int) (x2 : Int) : Unit → GS := fun _ => ⟨[(0, (.r (.at (.lst (.int .i64) x1 false)))), (1, (.r (.at (.int .i64 x2))))], []⟩
def f57_1_p0_P (x1 : List Int) (x2 : Int) (r : Unit) : Prop := Ex cx f57_1_M 48 (part Tryd.f57 0) (f57_1_p0_H x1 x2) (f57_1_p0_x r) (f57_1_p0_s x1 x2 r)
noncomputable def f57_1_p1_H (x1 : List Int) (x4 : Int) : GS := ⟨[(0, (.r (.at (.lst (.int .i64) x1 false)))), (6, (.r (.at (.int .u64 x4)))), (26, (.r (.at (.bool (decide (x4 > 9223372036854775807))))))], []⟩
noncomputable def f57_1_p1_x : Unit → GExit := fun _ => .normal
noncomputable def f57_1_p1_s (x1 : List Int) (x4 : Int) : Unit → GS := fun _ => ⟨[(0, (.r (.at (.lst (.int .i64) x1 false)))), (6, (.r (.at (.int .u64 x4))))], []⟩
def f57_1_p1_P (x1 : List Int) (x4 : Int) (r : Unit) : Prop := Ex cx f57_1_M 48 (part Tryd.f57 1) (f57_1_p1_H x1 x4) (f57_1_p1_x r) (f57_1_p1_s x1 x4 r)
noncomputable def f57_1_p3_H (x4 : Int) (x7 : Int) (x6 : List Int) : GS := ⟨[(7, (.r (.at (.sl 86 0 (Int.toNat (w64 (x4))))))), (8, (.r (.at (.int .i64 x7))))], [(86, (.gr (.int .i64) 3 x6 true))]⟩
noncomputable def f57_1_p3_x : (List Int) → GExit := fun y0 => (.exit 0)
noncomputable def f57_1_p3_s (x4 : Int) : (List Int) → GS := fun y0 => ⟨[(7, (.r (.at (.sl 86 0 (Int.toNat (w64 (x4)))))))], [(86, (.gr (.int .i64) 3 y0 true))]⟩
def f57_1_p3_P (x4 : Int) (x7 : Int) (x6 : List Int) (r : (List Int)) : Prop := Lp cx f57_1_M 48 (part Tryd.f57 3) (f57_1_p3_H x4 x7 x6) (f57_1_p3_x r) (f57_1_p3_s x4 r)
noncomputable def f57_1_v : (List Int) → G := fun y0 => (.r (.at (.lst (.int .i64) y0 false)))
noncomputable def f57_1_k0 : (List Int) → List (Nat × Blk) := fun y0 => []
noncomputable def f57_1_k (x1 : List Int) (x2 : Int) : (List Int) → List (Nat × Blk) := fun y0 => []
noncomputable def f57_1_A (x1 : List Int) (x2 : Int) : List G := [(.r (.at (.lst (.int .i64) x1 false))), (.r (.at (.int .i64 x2)))]
noncomputable def f57_1_K (x1 : List Int) (x2 : Int) : List (Nat × Blk) := []
def f57_1_C (x1 : List Int) (x2 : Int) (r : (List Int)) : Prop := CallOK cx 57 (f57_1_A x1 x2) (f57_1_K x1 x2) [] (f57_1_v r) (f57_1_k x1 x2 r)

def f13_M : List Nat := [74, 75, 76, 77, 78, 79, 80, 81, 82, 83, 84, 85]
noncomputable def f13_p5_2_H (x4 : Int) (x5 : Int) (x7 : List Int) (x19 : List Int) (x20 : List Int) (x22 : Int) (x21 : Int) (x6 : List (List Int)) (x23 : Int) (x24 : Int) : GS := ⟨[(2, (.r (.at (.int .u8 x4)))), (7, (.r (.at (.ptr 75 0 0)))), (8, (.r (.at (.int .i64 x5)))), (9, (.r (.at (.lst (.int .i64) x7 false)))), (10, (.r (.at (.int .i64 (Int.tmod (w64 (x4)) (iShl .i64 1 x5)))))), (11, (.r (.at (.sl 76 0 (List.length x19))))), (12, (.r (.at (.sl 77 0 (List.length x20))))), (14, (.r (.at (.int .i64 x22)))), (15, (.r (.at (.int .i64 x23)))), (49, (.r (.at (.lst (.int .i64) x7 false)))), (50, (.r (.at (.int .i64 ((List.length x7 : Nat) : Int))))), (51, (.r (.at (.int .i64 x21)))), (55, (.r (.at (.int .i64 x5)))), (56, (.r (.at (.int .i64 x24))))], [(75, (.var [.cell (.int .i64 x5), .cell (.lst (.list (.int .i64)) x6 false)])), (76, (.gr (.int .i64) 3 x19 true)), (77, (.gr (.int .i64) 3 x20 true))]⟩
noncomputable def f13_p5_2_x : Int → GExit := fun y0 => (.exit 2)
noncomputable def f13_p5_2_s (x4 : Int) (x5 : Int) (x7 : List Int) (x19 : List Int) (x20 : List Int) (x22 : Int) (x21 : Int) (x6 : List (List Int)) : Int → GS := fun y0 => ⟨[(2, (.r (.at (.int .u8 x4)))), (7, (.r (.at (.ptr 75 0 0)))), (8, (.r (.at (.int .i64 x5)))), (9, (.r (.at (.lst (.int .i64) x7 false)))), (10, (.r (.at (.int .i64 (Int.tmod (w64 (x4)) (iShl .i64 1 x5)))))), (11, (.r (.at (.sl 76 0 (List.length x19))))), (12, (.r (.at (.sl 77 0 (List.length x20))))), (14, (.r (.at (.int .i64 x22)))), (15, (.r (.at (.int .i64 y0)))), (49, (.r (.at (.lst (.int .i64) x7 false)))), (50, (.r (.at (.int .i64 ((List.length x7 : Nat) : Int))))), (51, (.r (.at (.int .i64 x21))))], [(75, (.var [.cell (.int .i64 x5), .cell (.lst (.list (.int .i64)) x6 false)])), (76, (.gr (.int .i64) 3 x19 true)), (77, (.gr (.int .i64) 3 x20 true))]⟩
def f13_p5_2_P (x4 : Int) (x5 : Int) (x7 : List Int) (x19 : List Int) (x20 : List Int) (x22 : Int) (x21 : Int) (x6 : List (List Int)) (x23 : Int) (x24 : Int) (r : Int) : Prop := Lp cx f13_M 247 (part Tryd.f13 5) (f13_p5_2_H x4 x5 x7 x19 x20 x22 x21 x6 x23 x24) (f13_p5_2_x r) (f13_p5_2_s x4 x5 x7 x19 x20 x22 x21 x6 r)
noncomputable def f13_p1_H (x4 : Int) (x5 : Int) (x7 : List Int) (x6 : List (List Int)) (x21 : Int) (x19 : List Int) (x20 : List Int) : GS := ⟨[(2, (.r (.at (.int .u8 x4)))), (7, (.r (.at (.ptr 75 0 0)))), (8, (.r (.at (.int .i64 x5)))), (9, (.r (.at (.lst (.int .i64) x7 false)))), (10, (.r (.at (.int .i64 (Int.tmod (w64 (x4)) (iShl .i64 1 x5)))))), (11, (.r (.at (.sl 76 0 (List.length x19))))), (12, (.r (.at (.sl 77 0 (List.length x20))))), (49, (.r (.at (.lst (.int .i64) x7 false)))), (50, (.r (.at (.int .i64 ((List.length x7 : Nat) : Int))))), (51, (.r (.at (.int .i64 x21))))], [(75, (.var [.cell (.int .i64 x5), .cell (.lst (.list (.int .i64)) x6 false)])), (76, (.gr (.int .i64) 3 x19 true)), (77, (.gr (.int .i64) 3 x20 true))]⟩
noncomputable def f13_p1_x : ((List Int) × (List Int)) → GExit := fun (y0, y1) => (.exit 0)
noncomputable def f13_p1_s (x4 : Int) (x5 : Int) (x7 : List Int) (x6 : List (List Int)) : ((List Int) × (List Int)) → GS := fun (y0, y1) => ⟨[(7, (.r (.at (.ptr 75 0 0)))), (8, (.r (.at (.int .i64 x5)))), (9, (.r (.at (.lst (.int .i64) x7 false)))), (10, (.r (.at (.int .i64 (Int.tmod (w64 (x4)) (iShl .i64 1 x5)))))), (11, (.r (.at (.sl 76 0 (List.length y0))))), (12, (.r (.at (.sl 77 0 (List.length y1)))))], [(75, (.var [.cell (.int .i64 x5), .cell (.lst (.list (.int .i64)) x6 false)])), (76, (.gr (.int .i64) 3 y0 true)), (77, (.gr (.int .i64) 3 y1 true))]⟩
def f13_p1_P (x4 : Int) (x5 : Int) (x7 : List Int) (x6 : List (List Int)) (x21 : Int) (x19 : List Int) (x20 : List Int) (r : (List Int) × (List Int)) : Prop := Lp cx f13_M 247 (part Tryd.f13 1) (f13_p1_H x4 x5 x7 x6 x21 x19 x20) (f13_p1_x r) (f13_p1_s x4 x5 x7 x6 r)
noncomputable def f13_p17_7_H (x5 : Int) (x4 : Int) (x91 : Int) (x94 : (List Int)) (x101 : Int) (x103 : Int) (x6 : List (List Int)) (x92 : Int) (x89 : List (List Int)) (x93 : Int) (x90 : List (List Int)) (x100 : List Int) : GS := ⟨[(7, (.r (.at (.ptr 75 0 0)))), (8, (.r (.at (.int .i64 x5)))), (10, (.r (.at (.int .i64 (Int.tmod (w64 (x4)) (iShl .i64 1 x5)))))), (23, (.r (.at (.ptr 80 0 0)))), (24, (.r (.at (.ptr 81 0 0)))), (25, (.r (.at (.int .i64 x91)))), (26, (.r (.at (.lst (.int .i64) x94 false)))), (27, (.r (.at (.sl 82 0 (Int.toNat ((List.length x94 : Nat) : Int)))))), (28, (.r (.at (.int .i64 x101)))), (29, (.r (.at (.int .i64 x103)))), (136, (.r (.at (.lst (.list (.int .i64)) x6 false)))), (137, (.r (.at (.int .i64 ((List.length x6 : Nat) : Int))))), (138, (.r (.at (.int .i64 x91)))), (147, (.r (.at (.int .i64 (iShl .i64 1 x5))))), (148, (.r (.at (.int .i64 x101)))), (166, (.r (.at (.bool ((iAnd .i64 (iShr .i64 (Int.tmod (w64 (x4)) (iShl .i64 1 x5)) x91) 1) == 1)))))], [(75, (.var [.cell (.int .i64 x5), .cell (.lst (.list (.int .i64)) x6 false)])), (80, (.var [.cell (.int .i64 x92), .cell (.sl 83 0 (List.length x89))])), (81, (.var [.cell (.int .i64 x93), .cell (.sl 85 0 (List.length x90))])), (82, (.gr (.int .i64) 3 x100 true)), (83, (.gr (.list (.int .i64)) 22 x89 true)), (85, (.gr (.list (.int .i64)) 22 x90 true))]⟩
noncomputable def f13_p17_7_x : Int → GExit := fun y0 => .normal
noncomputable def f13_p17_7_s (x5 : Int) (x4 : Int) (x91 : Int) (x94 : (List Int)) (x101 : Int) (x103 : Int) (x6 : List (List Int)) (x92 : Int) (x89 : List (List Int)) (x93 : Int) (x90 : List (List Int)) (x100 : List Int) : Int → GS := fun y0 => ⟨[(7, (.r (.at (.ptr 75 0 0)))), (8, (.r (.at (.int .i64 x5)))), (10, (.r (.at (.int .i64 (Int.tmod (w64 (x4)) (iShl .i64 1 x5)))))), (23, (.r (.at (.ptr 80 0 0)))), (24, (.r (.at (.ptr 81 0 0)))), (25, (.r (.at (.int .i64 x91)))), (26, (.r (.at (.lst (.int .i64) x94 false)))), (27, (.r (.at (.sl 82 0 (Int.toNat ((List.length x94 : Nat) : Int)))))), (28, (.r (.at (.int .i64 x101)))), (29, (.r (.at (.int .i64 y0)))), (136, (.r (.at (.lst (.list (.int .i64)) x6 false)))), (137, (.r (.at (.int .i64 ((List.length x6 : Nat) : Int))))), (138, (.r (.at (.int .i64 x91)))), (147, (.r (.at (.int .i64 (iShl .i64 1 x5))))), (148, (.r (.at (.int .i64 x101))))], [(75, (.var [.cell (.int .i64 x5), .cell (.lst (.list (.int .i64)) x6 false)])), (80, (.var [.cell (.int .i64 x92), .cell (.sl 83 0 (List.length x89))])), (81, (.var [.cell (.int .i64 x93), .cell (.sl 85 0 (List.length x90))])), (82, (.gr (.int .i64) 3 x100 true)), (83, (.gr (.list (.int .i64)) 22 x89 true)), (85, (.gr (.list (.int .i64)) 22 x90 true))]⟩
def f13_p17_7_P (x5 : Int) (x4 : Int) (x91 : Int) (x94 : (List Int)) (x101 : Int) (x103 : Int) (x6 : List (List Int)) (x92 : Int) (x89 : List (List Int)) (x93 : Int) (x90 : List (List Int)) (x100 : List Int) (r : Int) : Prop := Ex cx f13_M 247 (part Tryd.f13 17) (f13_p17_7_H x5 x4 x91 x94 x101 x103 x6 x92 x89 x93 x90 x100) (f13_p17_7_x r) (f13_p17_7_s x5 x4 x91 x94 x101 x103 x6 x92 x89 x93 x90 x100 r)
noncomputable def f13_p14_3_H (x5 : Int) (x4 : Int) (x91 : Int) (x94 : (List Int)) (x6 : List (List Int)) (x92 : Int) (x89 : List (List Int)) (x93 : Int) (x90 : List (List Int)) (x101 : Int) (x100 : List Int) : GS := ⟨[(7, (.r (.at (.ptr 75 0 0)))), (8, (.r (.at (.int .i64 x5)))), (10, (.r (.at (.int .i64 (Int.tmod (w64 (x4)) (iShl .i64 1 x5)))))), (23, (.r (.at (.ptr 80 0 0)))), (24, (.r (.at (.ptr 81 0 0)))), (25, (.r (.at (.int .i64 x91)))), (26, (.r (.at (.lst (.int .i64) x94 false)))), (27, (.r (.at (.sl 82 0 (Int.toNat ((List.length x94 : Nat) : Int)))))), (136, (.r (.at (.lst (.list (.int .i64)) x6 false)))), (137, (.r (.at (.int .i64 ((List.length x6 : Nat) : Int))))), (138, (.r (.at (.int .i64 x91)))), (147, (.r (.at (.int .i64 (iShl .i64 1 x5))))), (148, (.r (.at (.int .i64 x101))))], [(75, (.var [.cell (.int .i64 x5), .cell (.lst (.list (.int .i64)) x6 false)])), (80, (.var [.cell (.int .i64 x92), .cell (.sl 83 0 (List.length x89))])), (81, (.var [.cell (.int .i64 x93), .cell (.sl 85 0 (List.length x90))])), (82, (.gr (.int .i64) 3 x100 true)), (83, (.gr (.list (.int .i64)) 22 x89 true)), (85, (.gr (.list (.int .i64)) 22 x90 true))]⟩
noncomputable def f13_p14_3_x : (List Int) → GExit := fun y0 => (.exit 6)
noncomputable def f13_p14_3_s (x5 : Int) (x4 : Int) (x91 : Int) (x94 : (List Int)) (x6 : List (List Int)) (x92 : Int) (x89 : List (List Int)) (x93 : Int) (x90 : List (List Int)) : (List Int) → GS := fun y0 => ⟨[(7, (.r (.at (.ptr 75 0 0)))), (8, (.r (.at (.int .i64 x5)))), (10, (.r (.at (.int .i64 (Int.tmod (w64 (x4)) (iShl .i64 1 x5)))))), (23, (.r (.at (.ptr 80 0 0)))), (24, (.r (.at (.ptr 81 0 0)))), (26, (.r (.at (.lst (.int .i64) x94 false)))), (27, (.r (.at (.sl 82 0 (Int.toNat ((List.length x94 : Nat) : Int)))))), (136, (.r (.at (.lst (.list (.int .i64)) x6 false)))), (137, (.r (.at (.int .i64 ((List.length x6 : Nat) : Int))))), (138, (.r (.at (.int .i64 x91))))], [(75, (.var [.cell (.int .i64 x5), .cell (.lst (.list (.int .i64)) x6 false)])), (80, (.var [.cell (.int .i64 x92), .cell (.sl 83 0 (List.length x89))])), (81, (.var [.cell (.int .i64 x93), .cell (.sl 85 0 (List.length x90))])), (82, (.gr (.int .i64) 3 y0 true)), (83, (.gr (.list (.int .i64)) 22 x89 true)), (85, (.gr (.list (.int .i64)) 22 x90 true))]⟩
def f13_p14_3_P (x5 : Int) (x4 : Int) (x91 : Int) (x94 : (List Int)) (x6 : List (List Int)) (x92 : Int) (x89 : List (List Int)) (x93 : Int) (x90 : List (List Int)) (x101 : Int) (x100 : List Int) (r : (List Int)) : Prop := Lp cx f13_M 247 (part Tryd.f13 14) (f13_p14_3_H x5 x4 x91 x94 x6 x92 x89 x93 x90 x101 x100) (f13_p14_3_x r) (f13_p14_3_s x5 x4 x91 x94 x6 x92 x89 x93 x90 r)
noncomputable def f13_p10_H (x5 : Int) (x4 : Int) (x6 : List (List Int)) (x91 : Int) (x92 : Int) (x93 : Int) (x89 : List (List Int)) (x90 : List (List Int)) : GS := ⟨[(7, (.r (.at (.ptr 75 0 0)))), (8, (.r (.at (.int .i64 x5)))), (10, (.r (.at (.int .i64 (Int.tmod (w64 (x4)) (iShl .i64 1 x5)))))), (23, (.r (.at (.ptr 80 0 0)))), (24, (.r (.at (.ptr 81 0 0)))), (136, (.r (.at (.lst (.list (.int .i64)) x6 false)))), (137, (.r (.at (.int .i64 ((List.length x6 : Nat) : Int))))), (138, (.r (.at (.int .i64 x91))))], [(75, (.var [.cell (.int .i64 x5), .cell (.lst (.list (.int .i64)) x6 false)])), (80, (.var [.cell (.int .i64 x92), .cell (.sl 83 0 (List.length x89))])), (81, (.var [.cell (.int .i64 x93), .cell (.sl 85 0 (List.length x90))])), (83, (.gr (.list (.int .i64)) 22 x89 true)), (85, (.gr (.list (.int .i64)) 22 x90 true))]⟩
noncomputable def f13_p10_x : (Int × Int × (List (List Int)) × (List (List Int))) → GExit := fun (y0, y1, y2, y3) => (.exit 4)
noncomputable def f13_p10_s (x5 : Int) (x4 : Int) (x6 : List (List Int)) : (Int × Int × (List (List Int)) × (List (List Int))) → GS := fun (y0, y1, y2, y3) => ⟨[(7, (.r (.at (.ptr 75 0 0)))), (8, (.r (.at (.int .i64 x5)))), (23, (.r (.at (.ptr 80 0 0)))), (24, (.r (.at (.ptr 81 0 0))))], [(75, (.var [.cell (.int .i64 x5), .cell (.lst (.list (.int .i64)) x6 false)])), (80, (.var [.cell (.int .i64 y0), .cell (.sl 83 0 (List.length y2))])), (81, (.var [.cell (.int .i64 y1), .cell (.sl 85 0 (List.length y3))])), (83, (.gr (.list (.int .i64)) 22 y2 true)), (85, (.gr (.list (.int .i64)) 22 y3 true))]⟩
def f13_p10_P (x5 : Int) (x4 : Int) (x6 : List (List Int)) (x91 : Int) (x92 : Int) (x93 : Int) (x89 : List (List Int)) (x90 : List (List Int)) (r : Int × Int × (List (List Int)) × (List (List Int))) : Prop := Lp cx f13_M 247 (part Tryd.f13 10) (f13_p10_H x5 x4 x6 x91 x92 x93 x89 x90) (f13_p10_x r) (f13_p10_s x5 x4 x6 r)
noncomputable def f13_v : Bool → G := fun y0 => (.r (.at (.bool y0)))
noncomputable def f13_k0 : Bool → List (Nat × Blk) := fun y0 => []
noncomputable def f13_k (x1 : Int) (x2 : List Int) (x3 : Int) (x4 : Int) : Bool → List (Nat × Blk) := fun y0 => []
noncomputable def f13_A (x1 : Int) (x2 : List Int) (x3 : Int) (x4 : Int) : List G := [(.r (.agg [.cell (.int .u8 x1), .arr (.int .u8) 32 x2])), (.r (.at (.int .u16 x3))), (.r (.at (.int .u8 x4)))]
noncomputable def f13_K (x1 : Int) (x2 : List Int) (x3 : Int) (x4 : Int) : List (Nat × Blk) := []
def f13_C (x1 : Int) (x2 : List Int) (x3 : Int) (x4 : Int) (r : Bool) : Prop := CallOK cx 13 (f13_A x1 x2 x3 x4) (f13_K x1 x2 x3 x4) [] (f13_v r) (f13_k x1 x2 x3 x4 r)

end Go.Gh.Hat
