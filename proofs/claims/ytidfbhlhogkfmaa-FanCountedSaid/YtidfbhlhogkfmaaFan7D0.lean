/- Fan7D0: printed by wip/tool/gx.py -/
import Derived.Test.YtidfbhlhogkfmaaFanA
import Derived.Test.YtidfbhlhogkfmaaGiC
import Derived.Test.YtidfbhlhogkfmaaFan7N0
namespace Go.Gh.Fan
set_option linter.unusedVariables false
set_option linter.unusedSimpArgs false
open Go.Proofs

def f56_M : List Nat := [4]
noncomputable def f56_v : (Int × Bool × (List Int)) → G := fun (y0, y1, y2) => (.r (.agg [.cell (.int .i64 y0), .cell (.bool y1), .cell (.lst (.int .i64) y2 false)]))
noncomputable def f56_k0 : (Int × Bool × (List Int)) → List (Nat × Blk) := fun (y0, y1, y2) => []
noncomputable def f56_k (x1 : Bool) (x2 : List Int) : (Int × Bool × (List Int)) → List (Nat × Blk) := fun (y0, y1, y2) => []
noncomputable def f56_A (x1 : Bool) (x2 : List Int) : List G := [(.r (.at (.bool x1))), (.r (.at (.lst (.int .i64) x2 false)))]
noncomputable def f56_K (x1 : Bool) (x2 : List Int) : List (Nat × Blk) := []
def f56_C (x1 : Bool) (x2 : List Int) (r : Int × Bool × (List Int)) : Prop := CallOK cx 56 (f56_A x1 x2) (f56_K x1 x2) [] (f56_v r) (f56_k x1 x2 r)

def f54_M : List Nat := [3]
noncomputable def f54_v : (Int × Bool × (List Int)) → G := fun (y0, y1, y2) => (.r (.agg [.cell (.int .i64 y0), .cell (.bool y1), .cell (.lst (.int .i64) y2 false)]))
noncomputable def f54_k0 : (Int × Bool × (List Int)) → List (Nat × Blk) := fun (y0, y1, y2) => []
noncomputable def f54_k : (Int × Bool × (List Int)) → List (Nat × Blk) := fun (y0, y1, y2) => []
noncomputable def f54_A : List G := []
noncomputable def f54_K : List (Nat × Blk) := []
def f54_C (r : Int × Bool × (List Int)) : Prop := CallOK cx 54 (f54_A) (f54_K) [] (f54_v r) (f54_k r)

def f58_M : List Nat := []
noncomputable def f58_v : Bool → G := fun y0 => (.r (.at (.bool y0)))
noncomputable def f58_k0 : Bool → List (Nat × Blk) := fun y0 => []
noncomputable def f58_k (x1 : Int) (x2 : Int) (x3 : Int) : Bool → List (Nat × Blk) := fun y0 => []
noncomputable def f58_A (x1 : Int) (x2 : Int) (x3 : Int) : List G := [(.r (.at (.int .i64 x1))), (.r (.at (.int .i64 x2))), (.r (.at (.int .i64 x3)))]
noncomputable def f58_K (x1 : Int) (x2 : Int) (x3 : Int) : List (Nat × Blk) := []
def f58_C (x1 : Int) (x2 : Int) (x3 : Int) (r : Bool) : Prop := CallOK cx 58 (f58_A x1 x2 x3) (f58_K x1 x2 x3) [] (f58_v r) (f58_k x1 x2 x3 r)

def f77_M : List Nat := []
noncomputable def f77_p0_H (x1 : Int) (x2 : Bool) : GS := ⟨[(0, (.r (.at (.int .i64 x1)))), (5, (.r (.at (.bool x2))))], []⟩
noncomputable def f77_p0_x : Int → GExit := fun y0 => .normal
noncomputable def f77_p0_s (x1 : Int) (x2 : Bool) : Int → GS := fun y0 => ⟨[(0, (.r (.at (.int .i64 y0))))], []⟩
def f77_p0_P (x1 : Int) (x2 : Bool) (r : Int) : Prop := Ex cx f77_M 9 (part Try.f77 0) (f77_p0_H x1 x2) (f77_p0_x r) (f77_p0_s x1 x2 r)
noncomputable def f77_v : Int → G := fun y0 => (.r (.at (.int .i64 y0)))
noncomputable def f77_k0 : Int → List (Nat × Blk) := fun y0 => []
noncomputable def f77_k (x1 : Int) (x2 : Bool) : Int → List (Nat × Blk) := fun y0 => []
noncomputable def f77_A (x1 : Int) (x2 : Bool) : List G := [(.r (.at (.int .i64 x1))), (.r (.at (.bool x2)))]
noncomputable def f77_K (x1 : Int) (x2 : Bool) : List (Nat × Blk) := []
def f77_C (x1 : Int) (x2 : Bool) (r : Int) : Prop := CallOK cx 77 (f77_A x1 x2) (f77_K x1 x2) [] (f77_v r) (f77_k x1 x2 r)

def f70_M : List Nat := []
noncomputable def f70_v : Int → G := fun y0 => (.r (.at (.int .i64 y0)))
noncomputable def f70_k0 : Int → List (Nat × Blk) := fun y0 => []
noncomputable def f70_k (x1 : Int) (x2 : Int) (x3 : Bool) (x4 : List Int) (x5 : List Int) : Int → List (Nat × Blk) := fun y0 => [(7, (.var [.cell (.int .i64 x2), .cell (.bool x3), .arr (.int .i64) 16 x4, .arr (.int .i64) 9 x5]))]
noncomputable def f70_A (x1 : Int) (x2 : Int) (x3 : Bool) (x4 : List Int) (x5 : List Int) : List G := [(.r (.at (.ptr 7 0 0))), (.r (.at (.int .i64 x1)))]
noncomputable def f70_K (x1 : Int) (x2 : Int) (x3 : Bool) (x4 : List Int) (x5 : List Int) : List (Nat × Blk) := [(7, (.var [.cell (.int .i64 x2), .cell (.bool x3), .arr (.int .i64) 16 x4, .arr (.int .i64) 9 x5]))]
def f70_C (x1 : Int) (x2 : Int) (x3 : Bool) (x4 : List Int) (x5 : List Int) (r : Int) : Prop := CallOK cx 70 (f70_A x1 x2 x3 x4 x5) (f70_K x1 x2 x3 x4 x5) [] (f70_v r) (f70_k x1 x2 x3 x4 x5 r)

def f57_M : List Nat := [6, 7, 8, 9]
noncomputable def f57_p4_H (x1 : Int) (x2 : Bool) (x3 : List Int) (x6 : Int) (x7 : Int) (x8 : Bool) (x9 : List Int) (x10 : List Int) : GS := ⟨[(1, (.r (.at (.ptr 6 0 0)))), (4, (.r (.at (.ptr 7 0 0)))), (5, (.r (.at (.ptr 8 0 0)))), (6, (.r (.at (.ptr 9 0 0)))), (30, (.r (.at (.int .i64 x6))))], [(6, (.var [.cell (.int .i64 x1), .cell (.bool x2), .cell (.lst (.int .i64) x3 false)])), (7, (.var [.cell (.int .i64 x7), .cell (.bool x8), .arr (.int .i64) 16 x9, .arr (.int .i64) 9 x10])), (8, (.var [.arr (.int .i64) 9 ((List.replicate 9 0) : List Int)])), (9, (.var [.arr (.int .i64) 9 ((List.replicate 9 0) : List Int)]))]⟩
noncomputable def f57_p4_x : (Int × Bool × (List Int) × (List Int)) → GExit := fun (y0, y1, y2, y3) => (.exit 1)
noncomputable def f57_p4_s (x1 : Int) (x2 : Bool) (x3 : List Int) : (Int × Bool × (List Int) × (List Int)) → GS := fun (y0, y1, y2, y3) => ⟨[(1, (.r (.at (.ptr 6 0 0)))), (4, (.r (.at (.ptr 7 0 0)))), (5, (.r (.at (.ptr 8 0 0)))), (6, (.r (.at (.ptr 9 0 0))))], [(6, (.var [.cell (.int .i64 x1), .cell (.bool x2), .cell (.lst (.int .i64) x3 false)])), (7, (.var [.cell (.int .i64 y0), .cell (.bool y1), .arr (.int .i64) 16 y2, .arr (.int .i64) 9 y3])), (8, (.var [.arr (.int .i64) 9 ((List.replicate 9 0) : List Int)])), (9, (.var [.arr (.int .i64) 9 ((List.replicate 9 0) : List Int)]))]⟩
def f57_p4_P (x1 : Int) (x2 : Bool) (x3 : List Int) (x6 : Int) (x7 : Int) (x8 : Bool) (x9 : List Int) (x10 : List Int) (r : Int × Bool × (List Int) × (List Int)) : Prop := Lp cx f57_M 108 (part Try.f57 4) (f57_p4_H x1 x2 x3 x6 x7 x8 x9 x10) (f57_p4_x r) (f57_p4_s x1 x2 x3 r)
noncomputable def f57_p12_1_H (x21 : Int) (x28 : Int) (x3 : List Int) (x31 : Int) (x1 : Int) (x2 : Bool) (x22 : Int) (x23 : Bool) (x24 : List Int) (x25 : List Int) (x26 : List Int) (x30 : Int) (x27 : List Int) : GS := ⟨[(1, (.r (.at (.ptr 6 0 0)))), (4, (.r (.at (.ptr 7 0 0)))), (5, (.r (.at (.ptr 8 0 0)))), (6, (.r (.at (.ptr 9 0 0)))), (8, (.r (.at (.int .i64 x21)))), (9, (.r (.at (.int .i64 x28)))), (40, (.r (.at (.lst (.int .i64) x3 false)))), (41, (.r (.at (.int .i64 ((List.length x3 : Nat) : Int))))), (42, (.r (.at (.int .i64 x21)))), (60, (.r (.at (.bool (x31 == 1)))))], [(6, (.var [.cell (.int .i64 x1), .cell (.bool x2), .cell (.lst (.int .i64) x3 false)])), (7, (.var [.cell (.int .i64 x22), .cell (.bool x23), .arr (.int .i64) 16 x24, .arr (.int .i64) 9 x25])), (8, (.var [.arr (.int .i64) 9 ((List.set x26 (0 + ((Int.toNat x28) * 1)) (w64 (x30 + 1))) : List Int)])), (9, (.var [.arr (.int .i64) 9 x27]))]⟩
noncomputable def f57_p12_1_x : (List Int) → GExit := fun y0 => .normal
noncomputable def f57_p12_1_s (x21 : Int) (x28 : Int) (x3 : List Int) (x31 : Int) (x1 : Int) (x2 : Bool) (x22 : Int) (x23 : Bool) (x24 : List Int) (x25 : List Int) (x26 : List Int) (x30 : Int) (x27 : List Int) : (List Int) → GS := fun y0 => ⟨[(1, (.r (.at (.ptr 6 0 0)))), (4, (.r (.at (.ptr 7 0 0)))), (5, (.r (.at (.ptr 8 0 0)))), (6, (.r (.at (.ptr 9 0 0)))), (8, (.r (.at (.int .i64 x21)))), (9, (.r (.at (.int .i64 x28)))), (40, (.r (.at (.lst (.int .i64) x3 false)))), (41, (.r (.at (.int .i64 ((List.length x3 : Nat) : Int))))), (42, (.r (.at (.int .i64 x21))))], [(6, (.var [.cell (.int .i64 x1), .cell (.bool x2), .cell (.lst (.int .i64) x3 false)])), (7, (.var [.cell (.int .i64 x22), .cell (.bool x23), .arr (.int .i64) 16 x24, .arr (.int .i64) 9 y0])), (8, (.var [.arr (.int .i64) 9 ((List.set x26 (0 + ((Int.toNat x28) * 1)) (w64 (x30 + 1))) : List Int)])), (9, (.var [.arr (.int .i64) 9 x27]))]⟩
def f57_p12_1_P (x21 : Int) (x28 : Int) (x3 : List Int) (x31 : Int) (x1 : Int) (x2 : Bool) (x22 : Int) (x23 : Bool) (x24 : List Int) (x25 : List Int) (x26 : List Int) (x30 : Int) (x27 : List Int) (r : (List Int)) : Prop := Ex cx f57_M 108 (part Try.f57 12) (f57_p12_1_H x21 x28 x3 x31 x1 x2 x22 x23 x24 x25 x26 x30 x27) (f57_p12_1_x r) (f57_p12_1_s x21 x28 x3 x31 x1 x2 x22 x23 x24 x25 x26 x30 x27 r)
noncomputable def f57_p8_H (x3 : List Int) (x1 : Int) (x2 : Bool) (x21 : Int) (x22 : Int) (x23 : Bool) (x24 : List Int) (x25 : List Int) (x26 : List Int) (x27 : List Int) : GS := ⟨[(1, (.r (.at (.ptr 6 0 0)))), (4, (.r (.at (.ptr 7 0 0)))), (5, (.r (.at (.ptr 8 0 0)))), (6, (.r (.at (.ptr 9 0 0)))), (40, (.r (.at (.lst (.int .i64) x3 false)))), (41, (.r (.at (.int .i64 ((List.length x3 : Nat) : Int))))), (42, (.r (.at (.int .i64 x21))))], [(6, (.var [.cell (.int .i64 x1), .cell (.bool x2), .cell (.lst (.int .i64) x3 false)])), (7, (.var [.cell (.int .i64 x22), .cell (.bool x23), .arr (.int .i64) 16 x24, .arr (.int .i64) 9 x25])), (8, (.var [.arr (.int .i64) 9 x26])), (9, (.var [.arr (.int .i64) 9 x27]))]⟩
noncomputable def f57_p8_x : f57_p8_R → GExit := fun
  | .c0 => .ret
  | .c1 y0 y1 y2 y3 y4 y5 => (.exit 3)
noncomputable def f57_p8_s (x3 : List Int) (x1 : Int) (x2 : Bool) : f57_p8_R → GS := fun
  | .c0 => ⟨[(2, (.r (.at .nilp))), (3, (.r (.at (.int .i64 2))))], []⟩
  | .c1 y0 y1 y2 y3 y4 y5 => ⟨[(1, (.r (.at (.ptr 6 0 0)))), (4, (.r (.at (.ptr 7 0 0)))), (5, (.r (.at (.ptr 8 0 0)))), (6, (.r (.at (.ptr 9 0 0))))], [(6, (.var [.cell (.int .i64 x1), .cell (.bool x2), .cell (.lst (.int .i64) x3 false)])), (7, (.var [.cell (.int .i64 y0), .cell (.bool y1), .arr (.int .i64) 16 y2, .arr (.int .i64) 9 y3])), (8, (.var [.arr (.int .i64) 9 y4])), (9, (.var [.arr (.int .i64) 9 y5]))]⟩
def f57_p8_P (x3 : List Int) (x1 : Int) (x2 : Bool) (x21 : Int) (x22 : Int) (x23 : Bool) (x24 : List Int) (x25 : List Int) (x26 : List Int) (x27 : List Int) (r : f57_p8_R) : Prop := Lp cx f57_M 108 (part Try.f57 8) (f57_p8_H x3 x1 x2 x21 x22 x23 x24 x25 x26 x27) (f57_p8_x r) (f57_p8_s x3 x1 x2 r)
noncomputable def f57_p14_H (x1 : Int) (x2 : Bool) (x3 : List Int) (x33 : Int) (x34 : Bool) (x35 : List Int) (x36 : List Int) (x37 : List Int) (x38 : List Int) (x39 : Int) : GS := ⟨[(1, (.r (.at (.ptr 6 0 0)))), (4, (.r (.at (.ptr 7 0 0)))), (5, (.r (.at (.ptr 8 0 0)))), (6, (.r (.at (.ptr 9 0 0)))), (10, (.r (.at (.int .i64 x39))))], [(6, (.var [.cell (.int .i64 x1), .cell (.bool x2), .cell (.lst (.int .i64) x3 false)])), (7, (.var [.cell (.int .i64 x33), .cell (.bool x34), .arr (.int .i64) 16 x35, .arr (.int .i64) 9 x36])), (8, (.var [.arr (.int .i64) 9 x37])), (9, (.var [.arr (.int .i64) 9 x38]))]⟩
noncomputable def f57_p14_x : f57_p14_R → GExit := fun
  | .c0 y0 => .ret
  | .c1 => (.exit 5)
noncomputable def f57_p14_s (x1 : Int) (x2 : Bool) (x3 : List Int) (x33 : Int) (x34 : Bool) (x35 : List Int) (x36 : List Int) (x37 : List Int) (x38 : List Int) : f57_p14_R → GS := fun
  | .c0 y0 => ⟨[(2, (.r (.at .nilp))), (3, (.r (.at (.int .i64 y0))))], []⟩
  | .c1 => ⟨[(4, (.r (.at (.ptr 7 0 0))))], [(7, (.var [.cell (.int .i64 x33), .cell (.bool x34), .arr (.int .i64) 16 x35, .arr (.int .i64) 9 x36]))]⟩
def f57_p14_P (x1 : Int) (x2 : Bool) (x3 : List Int) (x33 : Int) (x34 : Bool) (x35 : List Int) (x36 : List Int) (x37 : List Int) (x38 : List Int) (x39 : Int) (r : f57_p14_R) : Prop := Lp cx f57_M 108 (part Try.f57 14) (f57_p14_H x1 x2 x3 x33 x34 x35 x36 x37 x38 x39) (f57_p14_x r) (f57_p14_s x1 x2 x3 x33 x34 x35 x36 x37 x38 r)
noncomputable def f57_v : f57_R → G := fun
  | .c0 y0 => (.tup [(.at .nilp), (.at (.int .i64 y0))])
  | .c1 y0 y1 y2 y3 y4 => (.tup [(.at (.ptr 7 0 0)), (.at (.int .i64 y0))])
noncomputable def f57_k0 : f57_R → List (Nat × Blk) := fun
  | .c0 y0 => []
  | .c1 y0 y1 y2 y3 y4 => [(7, (.var [.cell (.int .i64 y1), .cell (.bool y2), .arr (.int .i64) 16 y3, .arr (.int .i64) 9 y4]))]
noncomputable def f57_k (x1 : Int) (x2 : Bool) (x3 : List Int) : f57_R → List (Nat × Blk) := fun
  | .c0 y0 => []
  | .c1 y0 y1 y2 y3 y4 => [(7, (.var [.cell (.int .i64 y1), .cell (.bool y2), .arr (.int .i64) 16 y3, .arr (.int .i64) 9 y4]))]
noncomputable def f57_A (x1 : Int) (x2 : Bool) (x3 : List Int) : List G := [(.r (.agg [.cell (.int .i64 x1), .cell (.bool x2), .cell (.lst (.int .i64) x3 false)]))]
noncomputable def f57_K (x1 : Int) (x2 : Bool) (x3 : List Int) : List (Nat × Blk) := []
def f57_C (x1 : Int) (x2 : Bool) (x3 : List Int) (r : f57_R) : Prop := CallOK cx 57 (f57_A x1 x2 x3) (f57_K x1 x2 x3) [] (f57_v r) (f57_k x1 x2 x3 r)

def f74_M : List Nat := []
noncomputable def f74_p1_H (x1 : List Int) (x2 : Int) (x3 : Int) : GS := ⟨[(0, (.r (.at (.lst (.int .i64) x1 false)))), (1, (.r (.at (.int .i64 x2)))), (7, (.r (.at (.int .i64 ((List.length x1 : Nat) : Int))))), (8, (.r (.at (.int .i64 x3))))], []⟩
noncomputable def f74_p1_x : f74_p1_R → GExit := fun
  | .c0 y0 => .ret
  | .c1 => (.exit 0)
noncomputable def f74_p1_s (x1 : List Int) (x2 : Int) : f74_p1_R → GS := fun
  | .c0 y0 => ⟨[(4, (.r (.at (.int .i64 y0))))], []⟩
  | .c1 => ⟨[], []⟩
def f74_p1_P (x1 : List Int) (x2 : Int) (x3 : Int) (r : f74_p1_R) : Prop := Lp cx f74_M 19 (part Try.f74 1) (f74_p1_H x1 x2 x3) (f74_p1_x r) (f74_p1_s x1 x2 r)
noncomputable def f74_v : Int → G := fun y0 => (.r (.at (.int .i64 y0)))
noncomputable def f74_k0 : Int → List (Nat × Blk) := fun y0 => []
noncomputable def f74_k (x1 : List Int) (x2 : Int) : Int → List (Nat × Blk) := fun y0 => []
noncomputable def f74_A (x1 : List Int) (x2 : Int) : List G := [(.r (.at (.lst (.int .i64) x1 false))), (.r (.at (.int .i64 x2)))]
noncomputable def f74_K (x1 : List Int) (x2 : Int) : List (Nat × Blk) := []
def f74_C (x1 : List Int) (x2 : Int) (r : Int) : Prop := CallOK cx 74 (f74_A x1 x2) (f74_K x1 x2) [] (f74_v r) (f74_k x1 x2 r)

def f46_M : List Nat := []
noncomputable def f46_v : Bool → G := fun y0 => (.r (.at (.bool y0)))
noncomputable def f46_k0 : Bool → List (Nat × Blk) := fun y0 => []
noncomputable def f46_k (x1 : List Int) (x2 : Int) : Bool → List (Nat × Blk) := fun y0 => []
noncomputable def f46_A (x1 : List Int) (x2 : Int) : List G := [(.r (.at (.lst (.int .i64) x1 false))), (.r (.at (.int .i64 x2)))]
noncomputable def f46_K (x1 : List Int) (x2 : Int) : List (Nat × Blk) := []
def f46_C (x1 : List Int) (x2 : Int) (r : Bool) : Prop := CallOK cx 46 (f46_A x1 x2) (f46_K x1 x2) [] (f46_v r) (f46_k x1 x2 r)

def f48_M : List Nat := [5, 7]
noncomputable def f48_v : (Bool × Int) → G := fun (y0, y1) => (.tup [(.at (.bool y0)), (.at (.int .i64 y1))])
noncomputable def f48_k0 : (Bool × Int) → List (Nat × Blk) := fun (y0, y1) => []
noncomputable def f48_k (x1 : Int) (x2 : Bool) (x3 : List Int) : (Bool × Int) → List (Nat × Blk) := fun (y0, y1) => []
noncomputable def f48_A (x1 : Int) (x2 : Bool) (x3 : List Int) : List G := [(.r (.agg [.cell (.int .i64 x1), .cell (.bool x2), .cell (.lst (.int .i64) x3 false)]))]
noncomputable def f48_K (x1 : Int) (x2 : Bool) (x3 : List Int) : List (Nat × Blk) := []
def f48_C (x1 : Int) (x2 : Bool) (x3 : List Int) (r : Bool × Int) : Prop := CallOK cx 48 (f48_A x1 x2 x3) (f48_K x1 x2 x3) [] (f48_v r) (f48_k x1 x2 x3 r)

def f29_M : List Nat := []
noncomputable def f29_p1_H (x1 : Int) (x2 : Bool) : GS := ⟨[(0, (.r (.at (.int .i64 x1)))), (9, (.r (.at (.bool x2))))], []⟩
noncomputable def f29_p1_x : Int → GExit := fun y0 => .normal
noncomputable def f29_p1_s (x1 : Int) (x2 : Bool) : Int → GS := fun y0 => ⟨[(0, (.r (.at (.int .i64 y0))))], []⟩
def f29_p1_P (x1 : Int) (x2 : Bool) (r : Int) : Prop := Ex cx f29_M 15 (part Try.f29 1) (f29_p1_H x1 x2) (f29_p1_x r) (f29_p1_s x1 x2 r)
noncomputable def f29_v : (Bool × Int) → G := fun (y0, y1) => (.tup [(.at (.bool y0)), (.at (.int .i64 y1))])
noncomputable def f29_k0 : (Bool × Int) → List (Nat × Blk) := fun (y0, y1) => []
noncomputable def f29_k (x1 : Int) (x2 : Bool) : (Bool × Int) → List (Nat × Blk) := fun (y0, y1) => []
noncomputable def f29_A (x1 : Int) (x2 : Bool) : List G := [(.r (.at (.int .i64 x1))), (.r (.at (.bool x2)))]
noncomputable def f29_K (x1 : Int) (x2 : Bool) : List (Nat × Blk) := []
def f29_C (x1 : Int) (x2 : Bool) (r : Bool × Int) : Prop := CallOK cx 29 (f29_A x1 x2) (f29_K x1 x2) [] (f29_v r) (f29_k x1 x2 r)

def f71_M : List Nat := []
noncomputable def f71_p0_H (x1 : Int) (x2 : Bool) : GS := ⟨[(0, (.r (.at (.int .i64 x1)))), (6, (.r (.at (.int .i64 (w64 ((w64 (x1 * (w64 ((w64 (2 * x1)) - 1)))) - (w64 (Int.tdiv (w64 (x1 * (w64 (x1 + 1)))) 2)))))))), (18, (.r (.at (.bool x2))))], []⟩
noncomputable def f71_p0_x : Int → GExit := fun y0 => .normal
noncomputable def f71_p0_s (x1 : Int) (x2 : Bool) : Int → GS := fun y0 => ⟨[(6, (.r (.at (.int .i64 y0))))], []⟩
def f71_p0_P (x1 : Int) (x2 : Bool) (r : Int) : Prop := Ex cx f71_M 27 (part Try.f71 0) (f71_p0_H x1 x2) (f71_p0_x r) (f71_p0_s x1 x2 r)
noncomputable def f71_v : (Int × Bool) → G := fun (y0, y1) => (.tup [(.at (.int .i64 y0)), (.at (.bool y1))])
noncomputable def f71_k0 : (Int × Bool) → List (Nat × Blk) := fun (y0, y1) => []
noncomputable def f71_k (x1 : Int) (x2 : Bool) : (Int × Bool) → List (Nat × Blk) := fun (y0, y1) => []
noncomputable def f71_A (x1 : Int) (x2 : Bool) : List G := [(.r (.at (.int .i64 x1))), (.r (.at (.bool x2)))]
noncomputable def f71_K (x1 : Int) (x2 : Bool) : List (Nat × Blk) := []
def f71_C (x1 : Int) (x2 : Bool) (r : Int × Bool) : Prop := CallOK cx 71 (f71_A x1 x2) (f71_K x1 x2) [] (f71_v r) (f71_k x1 x2 r)

def f31_M : List Nat := []
noncomputable def f31_v : (Int × Int) → G := fun (y0, y1) => (.tup [(.at (.int .i64 y0)), (.at (.int .i64 y1))])
noncomputable def f31_k0 : (Int × Int) → List (Nat × Blk) := fun (y0, y1) => []
noncomputable def f31_k (x1 : Int) (x2 : Bool) : (Int × Int) → List (Nat × Blk) := fun (y0, y1) => []
noncomputable def f31_A (x1 : Int) (x2 : Bool) : List G := [(.r (.at (.int .i64 x1))), (.r (.at (.bool x2)))]
noncomputable def f31_K (x1 : Int) (x2 : Bool) : List (Nat × Blk) := []
def f31_C (x1 : Int) (x2 : Bool) (r : Int × Int) : Prop := CallOK cx 31 (f31_A x1 x2) (f31_K x1 x2) [] (f31_v r) (f31_k x1 x2 r)

def f53_M : List Nat := [10]
noncomputable def f53_v : (Int × Bool × (List Int)) → G := fun (y0, y1, y2) => (.r (.agg [.cell (.int .i64 y0), .cell (.bool y1), .cell (.lst (.int .i64) y2 false)]))
noncomputable def f53_k0 : (Int × Bool × (List Int)) → List (Nat × Blk) := fun (y0, y1, y2) => []
noncomputable def f53_k : (Int × Bool × (List Int)) → List (Nat × Blk) := fun (y0, y1, y2) => []
noncomputable def f53_A : List G := []
noncomputable def f53_K : List (Nat × Blk) := []
def f53_C (r : Int × Bool × (List Int)) : Prop := CallOK cx 53 (f53_A) (f53_K) [] (f53_v r) (f53_k r)

def f59_M : List Nat := []
noncomputable def f59_v : Int → G := fun y0 => (.r (.at (.int .i64 y0)))
noncomputable def f59_k0 : Int → List (Nat × Blk) := fun y0 => []
noncomputable def f59_k (x1 : Int) (x2 : Bool) (x3 : List Int) (x4 : List Int) : Int → List (Nat × Blk) := fun y0 => [(7, (.var [.cell (.int .i64 x1), .cell (.bool x2), .arr (.int .i64) 16 x3, .arr (.int .i64) 9 x4]))]
noncomputable def f59_A (x1 : Int) (x2 : Bool) (x3 : List Int) (x4 : List Int) : List G := [(.r (.at (.ptr 7 0 0)))]
noncomputable def f59_K (x1 : Int) (x2 : Bool) (x3 : List Int) (x4 : List Int) : List (Nat × Blk) := [(7, (.var [.cell (.int .i64 x1), .cell (.bool x2), .arr (.int .i64) 16 x3, .arr (.int .i64) 9 x4]))]
def f59_C (x1 : Int) (x2 : Bool) (x3 : List Int) (x4 : List Int) (r : Int) : Prop := CallOK cx 59 (f59_A x1 x2 x3 x4) (f59_K x1 x2 x3 x4) [] (f59_v r) (f59_k x1 x2 x3 x4 r)

def f60_M : List Nat := []
noncomputable def f60_v : Int → G := fun y0 => (.r (.at (.int .i64 y0)))
noncomputable def f60_k0 : Int → List (Nat × Blk) := fun y0 => []
noncomputable def f60_k (x1 : Int) (x2 : Int) (x3 : Int) (x4 : Bool) (x5 : List Int) (x6 : List Int) : Int → List (Nat × Blk) := fun y0 => [(7, (.var [.cell (.int .i64 x3), .cell (.bool x4), .arr (.int .i64) 16 x5, .arr (.int .i64) 9 x6]))]
noncomputable def f60_A (x1 : Int) (x2 : Int) (x3 : Int) (x4 : Bool) (x5 : List Int) (x6 : List Int) : List G := [(.r (.at (.ptr 7 0 0))), (.r (.at (.int .i64 x1))), (.r (.at (.int .i64 x2)))]
noncomputable def f60_K (x1 : Int) (x2 : Int) (x3 : Int) (x4 : Bool) (x5 : List Int) (x6 : List Int) : List (Nat × Blk) := [(7, (.var [.cell (.int .i64 x3), .cell (.bool x4), .arr (.int .i64) 16 x5, .arr (.int .i64) 9 x6]))]
def f60_C (x1 : Int) (x2 : Int) (x3 : Int) (x4 : Bool) (x5 : List Int) (x6 : List Int) (r : Int) : Prop := CallOK cx 60 (f60_A x1 x2 x3 x4 x5 x6) (f60_K x1 x2 x3 x4 x5 x6) [] (f60_v r) (f60_k x1 x2 x3 x4 x5 x6 r)

def f19_M : List Nat := [7, 11, 12]
noncomputable def f19_p8_1_H (x4 : Int) (x16 : List Int) (x17 : Int) (x13 : Int) (x18 : Int) (x7 : Int) (x8 : Bool) (x9 : List Int) (x10 : List Int) : GS := ⟨[(1, (.r (.at (.int .i64 x4)))), (6, (.r (.at (.ptr 7 0 0)))), (8, (.r (.at (.sl 12 0 (List.length x16))))), (9, (.r (.at (.int .i64 x17)))), (36, (.r (.at (.int .i64 x13)))), (37, (.r (.at (.int .i64 x17)))), (44, (.r (.at (.bool (x18 == 0)))))], [(7, (.var [.cell (.int .i64 x7), .cell (.bool x8), .arr (.int .i64) 16 x9, .arr (.int .i64) 9 x10])), (12, (.gr (.int .i64) 3 x16 true))]⟩
noncomputable def f19_p8_1_x : (List Int) → GExit := fun y0 => .normal
noncomputable def f19_p8_1_s (x4 : Int) (x16 : List Int) (x17 : Int) (x13 : Int) (x18 : Int) (x7 : Int) (x8 : Bool) (x9 : List Int) (x10 : List Int) : (List Int) → GS := fun y0 => ⟨[(1, (.r (.at (.int .i64 x4)))), (6, (.r (.at (.ptr 7 0 0)))), (8, (.r (.at (.sl 12 0 (List.length y0))))), (36, (.r (.at (.int .i64 x13)))), (37, (.r (.at (.int .i64 x17))))], [(7, (.var [.cell (.int .i64 x7), .cell (.bool x8), .arr (.int .i64) 16 x9, .arr (.int .i64) 9 x10])), (12, (.gr (.int .i64) 3 y0 true))]⟩
def f19_p8_1_P (x4 : Int) (x16 : List Int) (x17 : Int) (x13 : Int) (x18 : Int) (x7 : Int) (x8 : Bool) (x9 : List Int) (x10 : List Int) (r : (List Int)) : Prop := Ex cx f19_M 51 (part Try.f19 8) (f19_p8_1_H x4 x16 x17 x13 x18 x7 x8 x9 x10) (f19_p8_1_x r) (f19_p8_1_s x4 x16 x17 x13 x18 x7 x8 x9 x10 r)
noncomputable def f19_p5_H (x4 : Int) (x13 : Int) (x7 : Int) (x8 : Bool) (x9 : List Int) (x10 : List Int) (x17 : Int) (x16 : List Int) : GS := ⟨[(1, (.r (.at (.int .i64 x4)))), (6, (.r (.at (.ptr 7 0 0)))), (8, (.r (.at (.sl 12 0 (List.length x16))))), (36, (.r (.at (.int .i64 x13)))), (37, (.r (.at (.int .i64 x17))))], [(7, (.var [.cell (.int .i64 x7), .cell (.bool x8), .arr (.int .i64) 16 x9, .arr (.int .i64) 9 x10])), (12, (.gr (.int .i64) 3 x16 true))]⟩
noncomputable def f19_p5_x : (List Int) → GExit := fun y0 => (.exit 1)
noncomputable def f19_p5_s (x4 : Int) (x13 : Int) (x7 : Int) (x8 : Bool) (x9 : List Int) (x10 : List Int) : (List Int) → GS := fun y0 => ⟨[(8, (.r (.at (.sl 12 0 (List.length y0)))))], [(12, (.gr (.int .i64) 3 y0 true))]⟩
def f19_p5_P (x4 : Int) (x13 : Int) (x7 : Int) (x8 : Bool) (x9 : List Int) (x10 : List Int) (x17 : Int) (x16 : List Int) (r : (List Int)) : Prop := Lp cx f19_M 51 (part Try.f19 5) (f19_p5_H x4 x13 x7 x8 x9 x10 x17 x16) (f19_p5_x r) (f19_p5_s x4 x13 x7 x8 x9 x10 r)
noncomputable def f19_v : ((List Int) × Int) → G := fun (y0, y1) => (.tup [(.at (.lst (.int .i64) y0 false)), (.at (.int .i64 y1))])
noncomputable def f19_k0 : ((List Int) × Int) → List (Nat × Blk) := fun (y0, y1) => []
noncomputable def f19_k (x1 : Int) (x2 : Bool) (x3 : List Int) (x4 : Int) : ((List Int) × Int) → List (Nat × Blk) := fun (y0, y1) => []
noncomputable def f19_A (x1 : Int) (x2 : Bool) (x3 : List Int) (x4 : Int) : List G := [(.r (.agg [.cell (.int .i64 x1), .cell (.bool x2), .cell (.lst (.int .i64) x3 false)])), (.r (.at (.int .i64 x4)))]
noncomputable def f19_K (x1 : Int) (x2 : Bool) (x3 : List Int) (x4 : Int) : List (Nat × Blk) := []
def f19_C (x1 : Int) (x2 : Bool) (x3 : List Int) (x4 : Int) (r : (List Int) × Int) : Prop := CallOK cx 19 (f19_A x1 x2 x3 x4) (f19_K x1 x2 x3 x4) [] (f19_v r) (f19_k x1 x2 x3 x4 r)

def f61_M : List Nat := []
noncomputable def f61_v : (Int × Bool × (List Int) × (List Int)) → G := fun (y0, y1, y2, y3) => (.r (.at .unit0))
noncomputable def f61_k0 : (Int × Bool × (List Int) × (List Int)) → List (Nat × Blk) := fun (y0, y1, y2, y3) => [(7, (.var [.cell (.int .i64 y0), .cell (.bool y1), .arr (.int .i64) 16 y2, .arr (.int .i64) 9 y3]))]
noncomputable def f61_k (x1 : Int) (x2 : Int) (x3 : Int) (x4 : Bool) (x5 : List Int) (x6 : List Int) : (Int × Bool × (List Int) × (List Int)) → List (Nat × Blk) := fun (y0, y1, y2, y3) => [(7, (.var [.cell (.int .i64 y0), .cell (.bool y1), .arr (.int .i64) 16 y2, .arr (.int .i64) 9 y3]))]
noncomputable def f61_A (x1 : Int) (x2 : Int) (x3 : Int) (x4 : Bool) (x5 : List Int) (x6 : List Int) : List G := [(.r (.at (.ptr 7 0 0))), (.r (.at (.int .i64 x1))), (.r (.at (.int .i64 x2)))]
noncomputable def f61_K (x1 : Int) (x2 : Int) (x3 : Int) (x4 : Bool) (x5 : List Int) (x6 : List Int) : List (Nat × Blk) := [(7, (.var [.cell (.int .i64 x3), .cell (.bool x4), .arr (.int .i64) 16 x5, .arr (.int .i64) 9 x6]))]
def f61_C (x1 : Int) (x2 : Int) (x3 : Int) (x4 : Bool) (x5 : List Int) (x6 : List Int) (r : Int × Bool × (List Int) × (List Int)) : Prop := CallOK cx 61 (f61_A x1 x2 x3 x4 x5 x6) (f61_K x1 x2 x3 x4 x5 x6) [] (f61_v r) (f61_k x1 x2 x3 x4 x5 x6 r)

def f44_M : List Nat := [17]
noncomputable def f44_v : (List Int) → G := fun y0 => (.r (.at (.sl 17 0 (List.length y0))))
noncomputable def f44_k0 : (List Int) → List (Nat × Blk) := fun y0 => [(17, (.gr (.int .i64) 3 y0 true))]
noncomputable def f44_k (x1 : List Int) : (List Int) → List (Nat × Blk) := fun y0 => [(17, (.gr (.int .i64) 3 y0 true))]
noncomputable def f44_A (x1 : List Int) : List G := [(.r (.at (.lst (.int .i64) x1 false)))]
noncomputable def f44_K (x1 : List Int) : List (Nat × Blk) := []
def f44_C (x1 : List Int) (r : (List Int)) : Prop := CallOK cx 44 (f44_A x1) (f44_K x1) [] (f44_v r) (f44_k x1 r)

def f62_M : List Nat := [15, 16, 17]
noncomputable def f62_v : (Int × Bool × (List Int)) → G := fun (y0, y1, y2) => (.r (.agg [.cell (.int .i64 y0), .cell (.bool y1), .cell (.lst (.int .i64) y2 false)]))
noncomputable def f62_k0 : (Int × Bool × (List Int)) → List (Nat × Blk) := fun (y0, y1, y2) => []
noncomputable def f62_k (x1 : List Int) (x2 : Int) (x3 : Bool) (x4 : List Int) (x5 : List Int) : (Int × Bool × (List Int)) → List (Nat × Blk) := fun (y0, y1, y2) => [(7, (.var [.cell (.int .i64 x2), .cell (.bool x3), .arr (.int .i64) 16 x4, .arr (.int .i64) 9 x5]))]
noncomputable def f62_A (x1 : List Int) (x2 : Int) (x3 : Bool) (x4 : List Int) (x5 : List Int) : List G := [(.r (.at (.ptr 7 0 0))), (.r (.agg [.arr (.int .i64) 16 x1]))]
noncomputable def f62_K (x1 : List Int) (x2 : Int) (x3 : Bool) (x4 : List Int) (x5 : List Int) : List (Nat × Blk) := [(7, (.var [.cell (.int .i64 x2), .cell (.bool x3), .arr (.int .i64) 16 x4, .arr (.int .i64) 9 x5]))]
def f62_C (x1 : List Int) (x2 : Int) (x3 : Bool) (x4 : List Int) (x5 : List Int) (r : Int × Bool × (List Int)) : Prop := CallOK cx 62 (f62_A x1 x2 x3 x4 x5) (f62_K x1 x2 x3 x4 x5) [] (f62_v r) (f62_k x1 x2 x3 x4 x5 r)

def f15_M : List Nat := [7, 13, 14]
noncomputable def f15_v : (Int × Bool × (List Int) × Int) → G := fun (y0, y1, y2, y3) => (.tup [(.agg [.cell (.int .i64 y0), .cell (.bool y1), .cell (.lst (.int .i64) y2 false)]), (.at (.int .i64 y3))])
noncomputable def f15_k0 : (Int × Bool × (List Int) × Int) → List (Nat × Blk) := fun (y0, y1, y2, y3) => []
noncomputable def f15_k (x1 : Int) (x2 : Bool) (x3 : List Int) (x4 : Int) (x5 : Int) : (Int × Bool × (List Int) × Int) → List (Nat × Blk) := fun (y0, y1, y2, y3) => []
noncomputable def f15_A (x1 : Int) (x2 : Bool) (x3 : List Int) (x4 : Int) (x5 : Int) : List G := [(.r (.agg [.cell (.int .i64 x1), .cell (.bool x2), .cell (.lst (.int .i64) x3 false)])), (.r (.at (.int .i64 x4))), (.r (.at (.int .i64 x5)))]
noncomputable def f15_K (x1 : Int) (x2 : Bool) (x3 : List Int) (x4 : Int) (x5 : Int) : List (Nat × Blk) := []
def f15_C (x1 : Int) (x2 : Bool) (x3 : List Int) (x4 : Int) (x5 : Int) (r : Int × Bool × (List Int) × Int) : Prop := CallOK cx 15 (f15_A x1 x2 x3 x4 x5) (f15_K x1 x2 x3 x4 x5) [] (f15_v r) (f15_k x1 x2 x3 x4 x5 r)

def f68_M : List Nat := [7, 21]
noncomputable def f68_v : f68_R → G := fun
  | .c0 y0 => (.tup [(.at .nilp), (.at (.int .i64 y0))])
  | .c1 y0 y1 y2 y3 y4 => (.tup [(.at (.ptr 7 0 0)), (.at (.int .i64 y0))])
noncomputable def f68_k0 : f68_R → List (Nat × Blk) := fun
  | .c0 y0 => []
  | .c1 y0 y1 y2 y3 y4 => [(7, (.var [.cell (.int .i64 y1), .cell (.bool y2), .arr (.int .i64) 16 y3, .arr (.int .i64) 9 y4]))]
noncomputable def f68_k (x1 : Int) (x2 : Bool) (x3 : List Int) (x4 : Int) : f68_R → List (Nat × Blk) := fun
  | .c0 y0 => []
  | .c1 y0 y1 y2 y3 y4 => [(7, (.var [.cell (.int .i64 y1), .cell (.bool y2), .arr (.int .i64) 16 y3, .arr (.int .i64) 9 y4]))]
noncomputable def f68_A (x1 : Int) (x2 : Bool) (x3 : List Int) (x4 : Int) : List G := [(.r (.agg [.cell (.int .i64 x1), .cell (.bool x2), .cell (.lst (.int .i64) x3 false)])), (.r (.at (.int .i64 x4)))]
noncomputable def f68_K (x1 : Int) (x2 : Bool) (x3 : List Int) (x4 : Int) : List (Nat × Blk) := []
def f68_C (x1 : Int) (x2 : Bool) (x3 : List Int) (x4 : Int) (r : f68_R) : Prop := CallOK cx 68 (f68_A x1 x2 x3 x4) (f68_K x1 x2 x3 x4) [] (f68_v r) (f68_k x1 x2 x3 x4 r)

def f17_M : List Nat := [7, 19, 20]
noncomputable def f17_v : (Int × Bool × (List Int) × Int) → G := fun (y0, y1, y2, y3) => (.tup [(.agg [.cell (.int .i64 y0), .cell (.bool y1), .cell (.lst (.int .i64) y2 false)]), (.at (.int .i64 y3))])
noncomputable def f17_k0 : (Int × Bool × (List Int) × Int) → List (Nat × Blk) := fun (y0, y1, y2, y3) => []
noncomputable def f17_k (x1 : Int) (x2 : Bool) (x3 : List Int) (x4 : Int) : (Int × Bool × (List Int) × Int) → List (Nat × Blk) := fun (y0, y1, y2, y3) => []
noncomputable def f17_A (x1 : Int) (x2 : Bool) (x3 : List Int) (x4 : Int) : List G := [(.r (.agg [.cell (.int .i64 x1), .cell (.bool x2), .cell (.lst (.int .i64) x3 false)])), (.r (.at (.int .i64 x4)))]
noncomputable def f17_K (x1 : Int) (x2 : Bool) (x3 : List Int) (x4 : Int) : List (Nat × Blk) := []
def f17_C (x1 : Int) (x2 : Bool) (x3 : List Int) (x4 : Int) (r : Int × Bool × (List Int) × Int) : Prop := CallOK cx 17 (f17_A x1 x2 x3 x4) (f17_K x1 x2 x3 x4) [] (f17_v r) (f17_k x1 x2 x3 x4 r)

def f59_1_M : List Nat := []
noncomputable def f59_1_v : f59_1_R → G := fun r => nomatch r
noncomputable def f59_1_k0 : f59_1_R → List (Nat × Blk) := fun r => nomatch r
noncomputable def f59_1_k : f59_1_R → List (Nat × Blk) := fun r => nomatch r
noncomputable def f59_1_A : List G := [(.r (.at .nilp))]
noncomputable def f59_1_K : List (Nat × Blk) := []
def f59_1_C (r : f59_1_R) : Prop := CallOK cx 59 (f59_1_A) (f59_1_K) [] (f59_1_v r) (f59_1_k r)

def f23_M : List Nat := [7, 23]
noncomputable def f23_v : (Int × Int) → G := fun (y0, y1) => (.tup [(.at (.int .i64 y0)), (.at (.int .i64 y1))])
noncomputable def f23_k0 : (Int × Int) → List (Nat × Blk) := fun (y0, y1) => []
noncomputable def f23_k (x1 : Int) (x2 : Bool) (x3 : List Int) (x4 : Int) : (Int × Int) → List (Nat × Blk) := fun (y0, y1) => []
noncomputable def f23_A (x1 : Int) (x2 : Bool) (x3 : List Int) (x4 : Int) : List G := [(.r (.agg [.cell (.int .i64 x1), .cell (.bool x2), .cell (.lst (.int .i64) x3 false)])), (.r (.at (.int .i64 x4)))]
noncomputable def f23_K (x1 : Int) (x2 : Bool) (x3 : List Int) (x4 : Int) : List (Nat × Blk) := []
def f23_C (x1 : Int) (x2 : Bool) (x3 : List Int) (x4 : Int) (r : Int × Int) : Prop := CallOK cx 23 (f23_A x1 x2 x3 x4) (f23_K x1 x2 x3 x4) [] (f23_v r) (f23_k x1 x2 x3 x4 r)

def f44_1_M : List Nat := [25]
noncomputable def f44_1_v : (List Int) → G := fun y0 => (.r (.at (.lst (.int .i64) y0 false)))
noncomputable def f44_1_k0 : (List Int) → List (Nat × Blk) := fun y0 => []
noncomputable def f44_1_k (x1 : Nat) (x2 : Nat) (x3 : Int) (x4 : Bool) (x5 : List Int) (x6 : List Int) : (List Int) → List (Nat × Blk) := fun y0 => [(7, (.var [.cell (.int .i64 x3), .cell (.bool x4), .arr (.int .i64) 16 x5, .arr (.int .i64) 9 x6]))]
noncomputable def f44_1_A (x1 : Nat) (x2 : Nat) (x3 : Int) (x4 : Bool) (x5 : List Int) (x6 : List Int) : List G := [(.r (.at (.vw 7 2 x1 x2)))]
noncomputable def f44_1_K (x1 : Nat) (x2 : Nat) (x3 : Int) (x4 : Bool) (x5 : List Int) (x6 : List Int) : List (Nat × Blk) := [(7, (.var [.cell (.int .i64 x3), .cell (.bool x4), .arr (.int .i64) 16 x5, .arr (.int .i64) 9 x6]))]
def f44_1_C (x1 : Nat) (x2 : Nat) (x3 : Int) (x4 : Bool) (x5 : List Int) (x6 : List Int) (r : (List Int)) : Prop := CallOK cx 44 (f44_1_A x1 x2 x3 x4 x5 x6) (f44_1_K x1 x2 x3 x4 x5 x6) [] (f44_1_v r) (f44_1_k x1 x2 x3 x4 x5 x6 r)

def f25_M : List Nat := [7, 24]
noncomputable def f25_v : ((List Int) × Int) → G := fun (y0, y1) => (.tup [(.at (.lst (.int .i64) y0 false)), (.at (.int .i64 y1))])
noncomputable def f25_k0 : ((List Int) × Int) → List (Nat × Blk) := fun (y0, y1) => []
noncomputable def f25_k (x1 : Int) (x2 : Bool) (x3 : List Int) (x4 : Int) : ((List Int) × Int) → List (Nat × Blk) := fun (y0, y1) => []
noncomputable def f25_A (x1 : Int) (x2 : Bool) (x3 : List Int) (x4 : Int) : List G := [(.r (.agg [.cell (.int .i64 x1), .cell (.bool x2), .cell (.lst (.int .i64) x3 false)])), (.r (.at (.int .i64 x4)))]
noncomputable def f25_K (x1 : Int) (x2 : Bool) (x3 : List Int) (x4 : Int) : List (Nat × Blk) := []
def f25_C (x1 : Int) (x2 : Bool) (x3 : List Int) (x4 : Int) (r : (List Int) × Int) : Prop := CallOK cx 25 (f25_A x1 x2 x3 x4) (f25_K x1 x2 x3 x4) [] (f25_v r) (f25_k x1 x2 x3 x4 r)

def f27_M : List Nat := [7, 26, 27]
noncomputable def f27_p6_1_H (x4 : Int) (x11 : Int) (x12 : Int) (x18 : List Int) (x19 : Int) (x22 : Bool) (x23 : Bool) (x7 : Int) (x8 : Bool) (x9 : List Int) (x10 : List Int) : GS := ⟨[(1, (.r (.at (.int .i64 x4)))), (6, (.r (.at (.ptr 7 0 0)))), (8, (.r (.at (.int .i64 x11)))), (9, (.r (.at (.int .i64 x12)))), (10, (.r (.at (.sl 27 0 (List.length x18))))), (11, (.r (.at (.int .i64 x19)))), (69, (.r (.at (.bool (!(x22 == x23))))))], [(7, (.var [.cell (.int .i64 x7), .cell (.bool x8), .arr (.int .i64) 16 x9, .arr (.int .i64) 9 x10])), (27, (.gr (.int .i64) 3 x18 true))]⟩
noncomputable def f27_p6_1_x : (List Int) → GExit := fun y0 => .normal
noncomputable def f27_p6_1_s (x4 : Int) (x11 : Int) (x12 : Int) (x18 : List Int) (x19 : Int) (x22 : Bool) (x23 : Bool) (x7 : Int) (x8 : Bool) (x9 : List Int) (x10 : List Int) : (List Int) → GS := fun y0 => ⟨[(1, (.r (.at (.int .i64 x4)))), (6, (.r (.at (.ptr 7 0 0)))), (8, (.r (.at (.int .i64 x11)))), (9, (.r (.at (.int .i64 x12)))), (10, (.r (.at (.sl 27 0 (List.length y0))))), (11, (.r (.at (.int .i64 x19))))], [(7, (.var [.cell (.int .i64 x7), .cell (.bool x8), .arr (.int .i64) 16 x9, .arr (.int .i64) 9 x10])), (27, (.gr (.int .i64) 3 y0 true))]⟩
def f27_p6_1_P (x4 : Int) (x11 : Int) (x12 : Int) (x18 : List Int) (x19 : Int) (x22 : Bool) (x23 : Bool) (x7 : Int) (x8 : Bool) (x9 : List Int) (x10 : List Int) (r : (List Int)) : Prop := Ex cx f27_M 75 (part Try.f27 6) (f27_p6_1_H x4 x11 x12 x18 x19 x22 x23 x7 x8 x9 x10) (f27_p6_1_x r) (f27_p6_1_s x4 x11 x12 x18 x19 x22 x23 x7 x8 x9 x10 r)
noncomputable def f27_p2_H (x4 : Int) (x11 : Int) (x12 : Int) (x7 : Int) (x8 : Bool) (x9 : List Int) (x10 : List Int) (x19 : Int) (x18 : List Int) : GS := ⟨[(1, (.r (.at (.int .i64 x4)))), (6, (.r (.at (.ptr 7 0 0)))), (8, (.r (.at (.int .i64 x11)))), (9, (.r (.at (.int .i64 x12)))), (10, (.r (.at (.sl 27 0 (List.length x18))))), (11, (.r (.at (.int .i64 x19))))], [(7, (.var [.cell (.int .i64 x7), .cell (.bool x8), .arr (.int .i64) 16 x9, .arr (.int .i64) 9 x10])), (27, (.gr (.int .i64) 3 x18 true))]⟩
noncomputable def f27_p2_x : (List Int) → GExit := fun y0 => (.exit 0)
noncomputable def f27_p2_s (x4 : Int) (x11 : Int) (x12 : Int) (x7 : Int) (x8 : Bool) (x9 : List Int) (x10 : List Int) : (List Int) → GS := fun y0 => ⟨[(10, (.r (.at (.sl 27 0 (List.length y0)))))], [(27, (.gr (.int .i64) 3 y0 true))]⟩
def f27_p2_P (x4 : Int) (x11 : Int) (x12 : Int) (x7 : Int) (x8 : Bool) (x9 : List Int) (x10 : List Int) (x19 : Int) (x18 : List Int) (r : (List Int)) : Prop := Lp cx f27_M 75 (part Try.f27 2) (f27_p2_H x4 x11 x12 x7 x8 x9 x10 x19 x18) (f27_p2_x r) (f27_p2_s x4 x11 x12 x7 x8 x9 x10 r)
noncomputable def f27_v : ((List Int) × Int) → G := fun (y0, y1) => (.tup [(.at (.lst (.int .i64) y0 false)), (.at (.int .i64 y1))])
noncomputable def f27_k0 : ((List Int) × Int) → List (Nat × Blk) := fun (y0, y1) => []
noncomputable def f27_k (x1 : Int) (x2 : Bool) (x3 : List Int) (x4 : Int) : ((List Int) × Int) → List (Nat × Blk) := fun (y0, y1) => []
noncomputable def f27_A (x1 : Int) (x2 : Bool) (x3 : List Int) (x4 : Int) : List G := [(.r (.agg [.cell (.int .i64 x1), .cell (.bool x2), .cell (.lst (.int .i64) x3 false)])), (.r (.at (.int .i64 x4)))]
noncomputable def f27_K (x1 : Int) (x2 : Bool) (x3 : List Int) (x4 : Int) : List (Nat × Blk) := []
def f27_C (x1 : Int) (x2 : Bool) (x3 : List Int) (x4 : Int) (r : (List Int) × Int) : Prop := CallOK cx 27 (f27_A x1 x2 x3 x4) (f27_K x1 x2 x3 x4) [] (f27_v r) (f27_k x1 x2 x3 x4 r)

def f72_M : List Nat := []
noncomputable def f72_v : f72_R → G := fun r => nomatch r
noncomputable def f72_k0 : f72_R → List (Nat × Blk) := fun r => nomatch r
noncomputable def f72_k (x1 : Int) (x2 : Bool) (x3 : List Int) : f72_R → List (Nat × Blk) := fun r => nomatch r
noncomputable def f72_A (x1 : Int) (x2 : Bool) (x3 : List Int) : List G := [(.r (.at .nilp)), (.r (.at (.yl 31)))]
noncomputable def f72_K (x1 : Int) (x2 : Bool) (x3 : List Int) : List (Nat × Blk) := [(29, (.var [.cell (.int .i64 x1), .cell (.bool x2), .cell .nils])), (30, (.var [.arr (.int .i64) 16 x3])), (31, (.lpb ⟨#[19], part Try.f33 2, part Try.f33 3, 37, [(2, (.r (.at (.ptr 29 0 0)))), (4, (.r (.at .nilp))), (6, (.r (.at (.ptr 30 0 0)))), (18, (.r (.at (.app1 (.fn 72) .nilp))))]⟩))]
def f72_C (x1 : Int) (x2 : Bool) (x3 : List Int) (r : f72_R) : Prop := CallOK cx 72 (f72_A x1 x2 x3) (f72_K x1 x2 x3) [] (f72_v r) (f72_k x1 x2 x3 r)

def f79_M : List Nat := []
noncomputable def f79_v : Bool → G := fun y0 => (.r (.at (.bool y0)))
noncomputable def f79_k0 : Bool → List (Nat × Blk) := fun y0 => []
noncomputable def f79_k (x1 : Int) : Bool → List (Nat × Blk) := fun y0 => []
noncomputable def f79_A (x1 : Int) : List G := [(.r (.at (.int .i64 x1)))]
noncomputable def f79_K (x1 : Int) : List (Nat × Blk) := []
def f79_C (x1 : Int) (r : Bool) : Prop := CallOK cx 79 (f79_A x1) (f79_K x1) [] (f79_v r) (f79_k x1 r)

def f75_M : List Nat := []
noncomputable def f75_v : Int → G := fun y0 => (.r (.at (.int .i64 y0)))
noncomputable def f75_k0 : Int → List (Nat × Blk) := fun y0 => []
noncomputable def f75_k (x1 : Int) (x2 : Int) : Int → List (Nat × Blk) := fun y0 => []
noncomputable def f75_A (x1 : Int) (x2 : Int) : List G := [(.r (.at (.int .i64 x1))), (.r (.at (.int .i64 x2)))]
noncomputable def f75_K (x1 : Int) (x2 : Int) : List (Nat × Blk) := []
def f75_C (x1 : Int) (x2 : Int) (r : Int) : Prop := CallOK cx 75 (f75_A x1 x2) (f75_K x1 x2) [] (f75_v r) (f75_k x1 x2 r)

def f42_M : List Nat := []
noncomputable def f42_p1_H (x1 : List Int) (x2 : List Int) (x3 : Int) : GS := ⟨[(0, (.r (.at (.lst (.int .i64) x1 false)))), (1, (.r (.at (.lst (.int .i64) x2 false)))), (9, (.r (.at (.lst (.int .i64) x1 false)))), (10, (.r (.at (.int .i64 ((List.length x1 : Nat) : Int))))), (11, (.r (.at (.int .i64 x3))))], []⟩
noncomputable def f42_p1_x : f42_p1_R → GExit := fun
  | .c0 y0 => .ret
  | .c1 => (.exit 0)
noncomputable def f42_p1_s (x1 : List Int) (x2 : List Int) : f42_p1_R → GS := fun
  | .c0 y0 => ⟨[(4, (.r (.at (.int .i64 y0))))], []⟩
  | .c1 => ⟨[(0, (.r (.at (.lst (.int .i64) x1 false)))), (1, (.r (.at (.lst (.int .i64) x2 false))))], []⟩
def f42_p1_P (x1 : List Int) (x2 : List Int) (x3 : Int) (r : f42_p1_R) : Prop := Lp cx f42_M 36 (part Try.f42 1) (f42_p1_H x1 x2 x3) (f42_p1_x r) (f42_p1_s x1 x2 r)
noncomputable def f42_v : Int → G := fun y0 => (.r (.at (.int .i64 y0)))
noncomputable def f42_k0 : Int → List (Nat × Blk) := fun y0 => []
noncomputable def f42_k (x1 : List Int) (x2 : List Int) : Int → List (Nat × Blk) := fun y0 => []
noncomputable def f42_A (x1 : List Int) (x2 : List Int) : List G := [(.r (.at (.lst (.int .i64) x1 false))), (.r (.at (.lst (.int .i64) x2 false)))]
noncomputable def f42_K (x1 : List Int) (x2 : List Int) : List (Nat × Blk) := []
def f42_C (x1 : List Int) (x2 : List Int) (r : Int) : Prop := CallOK cx 42 (f42_A x1 x2) (f42_K x1 x2) [] (f42_v r) (f42_k x1 x2 r)

def f33_y0_M : List Nat := [32]
noncomputable def f33_y0_Q (x1 : List Int) (x2 : Int) (x3 : Bool) (x4 : List Int) (x5 : List Int) (x6 : Int) (x7 : Bool) (x8 : List Int) : LpRec := ⟨#[19], part Try.f33 2, part Try.f33 3, 37, [(2, (.r (.at (.ptr 29 0 0)))), (4, (.r (.at (.ptr 7 0 0)))), (6, (.r (.at (.ptr 30 0 0)))), (18, (.r (.at (.app1 (.fn 72) (.ptr 7 0 0)))))]⟩
noncomputable def f33_y0_k0 : (List Int) → List (Nat × Blk) := fun y0 => [(30, (.var [.arr (.int .i64) 16 y0]))]
noncomputable def f33_y0_k (x1 : List Int) (x2 : Int) (x3 : Bool) (x4 : List Int) (x5 : List Int) (x6 : Int) (x7 : Bool) (x8 : List Int) : (List Int) → List (Nat × Blk) := fun y0 => [(30, (.var [.arr (.int .i64) 16 y0])), (7, (.var [.cell (.int .i64 x2), .cell (.bool x3), .arr (.int .i64) 16 x4, .arr (.int .i64) 9 x5])), (29, (.var [.cell (.int .i64 x6), .cell (.bool x7), .cell .nils]))]
noncomputable def f33_y0_A (x1 : List Int) (x2 : Int) (x3 : Bool) (x4 : List Int) (x5 : List Int) (x6 : Int) (x7 : Bool) (x8 : List Int) : List G := [(.r (.agg [.arr (.int .i64) 16 x1]))]
noncomputable def f33_y0_K (x1 : List Int) (x2 : Int) (x3 : Bool) (x4 : List Int) (x5 : List Int) (x6 : Int) (x7 : Bool) (x8 : List Int) : List (Nat × Blk) := [(7, (.var [.cell (.int .i64 x2), .cell (.bool x3), .arr (.int .i64) 16 x4, .arr (.int .i64) 9 x5])), (29, (.var [.cell (.int .i64 x6), .cell (.bool x7), .cell .nils])), (30, (.var [.arr (.int .i64) 16 x8]))]
def f33_y0_C (x1 : List Int) (x2 : Int) (x3 : Bool) (x4 : List Int) (x5 : List Int) (x6 : Int) (x7 : Bool) (x8 : List Int) (r : (List Int)) : Prop := YOK cx (f33_y0_Q x1 x2 x3 x4 x5 x6 x7 x8) (f33_y0_A x1 x2 x3 x4 x5 x6 x7 x8) (f33_y0_K x1 x2 x3 x4 x5 x6 x7 x8) [] (f33_y0_k x1 x2 x3 x4 x5 x6 x7 x8 r)

def f78_M : List Nat := []
noncomputable def f78_p1_H (x2 : Int) (x3 : Bool) (x4 : List Int) (x5 : List Int) (x6 : Int) (x7 : Bool) (x8 : List Int) (x9 : Int) : GS := ⟨[(0, (.r (.at (.ptr 7 0 0)))), (1, (.r (.at (.int .i64 x9)))), (2, (.r (.at (.yl 31))))], [(7, (.var [.cell (.int .i64 x2), .cell (.bool x3), .arr (.int .i64) 16 x4, .arr (.int .i64) 9 x5])), (29, (.var [.cell (.int .i64 x6), .cell (.bool x7), .cell .nils])), (30, (.var [.arr (.int .i64) 16 x8])), (31, (.lpb ⟨#[19], part Try.f33 2, part Try.f33 3, 37, [(2, (.r (.at (.ptr 29 0 0)))), (4, (.r (.at (.ptr 7 0 0)))), (6, (.r (.at (.ptr 30 0 0)))), (18, (.r (.at (.app1 (.fn 72) (.ptr 7 0 0)))))]⟩))]⟩
noncomputable def f78_p1_x : Int → GExit := fun y0 => (.exit 0)
noncomputable def f78_p1_s (x2 : Int) (x3 : Bool) (x4 : List Int) (x5 : List Int) (x6 : Int) (x7 : Bool) (x8 : List Int) : Int → GS := fun y0 => ⟨[(0, (.r (.at (.ptr 7 0 0)))), (1, (.r (.at (.int .i64 y0)))), (2, (.r (.at (.yl 31))))], [(7, (.var [.cell (.int .i64 x2), .cell (.bool x3), .arr (.int .i64) 16 x4, .arr (.int .i64) 9 x5])), (29, (.var [.cell (.int .i64 x6), .cell (.bool x7), .cell .nils])), (30, (.var [.arr (.int .i64) 16 x8])), (31, (.lpb ⟨#[19], part Try.f33 2, part Try.f33 3, 37, [(2, (.r (.at (.ptr 29 0 0)))), (4, (.r (.at (.ptr 7 0 0)))), (6, (.r (.at (.ptr 30 0 0)))), (18, (.r (.at (.app1 (.fn 72) (.ptr 7 0 0)))))]⟩))]⟩
def f78_p1_P (x2 : Int) (x3 : Bool) (x4 : List Int) (x5 : List Int) (x6 : Int) (x7 : Bool) (x8 : List Int) (x9 : Int) (r : Int) : Prop := Lp cx f78_M 56 (part Try.f78 1) (f78_p1_H x2 x3 x4 x5 x6 x7 x8 x9) (f78_p1_x r) (f78_p1_s x2 x3 x4 x5 x6 x7 x8 r)
noncomputable def f78_p6_H (x11 : Int) (x13 : Int) (x6 : Int) (x7 : Bool) (x30 : Int) (x31 : Int) (x32 : Bool) (x33 : List Int) (x34 : List Int) (x35 : List Int) : GS := ⟨[(0, (.r (.at (.ptr 7 0 0)))), (1, (.r (.at (.int .i64 x11)))), (2, (.r (.at (.yl 31)))), (31, (.r (.at (.int .i64 x13)))), (32, (.r (.at (.int .i64 x30))))], [(7, (.var [.cell (.int .i64 x31), .cell (.bool x32), .arr (.int .i64) 16 x33, .arr (.int .i64) 9 x34])), (29, (.var [.cell (.int .i64 x6), .cell (.bool x7), .cell .nils])), (30, (.var [.arr (.int .i64) 16 x35])), (31, (.lpb ⟨#[19], part Try.f33 2, part Try.f33 3, 37, [(2, (.r (.at (.ptr 29 0 0)))), (4, (.r (.at (.ptr 7 0 0)))), (6, (.r (.at (.ptr 30 0 0)))), (18, (.r (.at (.app1 (.fn 72) (.ptr 7 0 0)))))]⟩))]⟩
noncomputable def f78_p6_x : f78_p6_R → GExit := fun
  | .c0 y0 y1 y2 y3 y4 => .ret
  | .c1 y0 y1 y2 y3 y4 => (.exit 2)
noncomputable def f78_p6_s (x11 : Int) (x13 : Int) (x6 : Int) (x7 : Bool) : f78_p6_R → GS := fun
  | .c0 y0 y1 y2 y3 y4 => ⟨[(6, (.r (.at (.bool false))))], [(7, (.var [.cell (.int .i64 y0), .cell (.bool y1), .arr (.int .i64) 16 y2, .arr (.int .i64) 9 y3])), (29, (.var [.cell (.int .i64 x6), .cell (.bool x7), .cell .nils])), (30, (.var [.arr (.int .i64) 16 y4])), (31, (.lpb ⟨#[19], part Try.f33 2, part Try.f33 3, 37, [(2, (.r (.at (.ptr 29 0 0)))), (4, (.r (.at (.ptr 7 0 0)))), (6, (.r (.at (.ptr 30 0 0)))), (18, (.r (.at (.app1 (.fn 72) (.ptr 7 0 0)))))]⟩))]⟩
  | .c1 y0 y1 y2 y3 y4 => ⟨[], [(7, (.var [.cell (.int .i64 y0), .cell (.bool y1), .arr (.int .i64) 16 y2, .arr (.int .i64) 9 y3])), (29, (.var [.cell (.int .i64 x6), .cell (.bool x7), .cell .nils])), (30, (.var [.arr (.int .i64) 16 y4])), (31, (.lpb ⟨#[19], part Try.f33 2, part Try.f33 3, 37, [(2, (.r (.at (.ptr 29 0 0)))), (4, (.r (.at (.ptr 7 0 0)))), (6, (.r (.at (.ptr 30 0 0)))), (18, (.r (.at (.app1 (.fn 72) (.ptr 7 0 0)))))]⟩))]⟩
def f78_p6_P (x11 : Int) (x13 : Int) (x6 : Int) (x7 : Bool) (x30 : Int) (x31 : Int) (x32 : Bool) (x33 : List Int) (x34 : List Int) (x35 : List Int) (r : f78_p6_R) : Prop := Lp cx f78_M 56 (part Try.f78 6) (f78_p6_H x11 x13 x6 x7 x30 x31 x32 x33 x34 x35) (f78_p6_x r) (f78_p6_s x11 x13 x6 x7 r)
noncomputable def f78_v : (Bool × Int × Bool × (List Int) × (List Int) × (List Int)) → G := fun (y0, y1, y2, y3, y4, y5) => (.r (.at (.bool y0)))
noncomputable def f78_k0 : (Bool × Int × Bool × (List Int) × (List Int) × (List Int)) → List (Nat × Blk) := fun (y0, y1, y2, y3, y4, y5) => [(7, (.var [.cell (.int .i64 y1), .cell (.bool y2), .arr (.int .i64) 16 y3, .arr (.int .i64) 9 y4])), (30, (.var [.arr (.int .i64) 16 y5]))]
noncomputable def f78_k (x1 : Int) (x2 : Int) (x3 : Bool) (x4 : List Int) (x5 : List Int) (x6 : Int) (x7 : Bool) (x8 : List Int) : (Bool × Int × Bool × (List Int) × (List Int) × (List Int)) → List (Nat × Blk) := fun (y0, y1, y2, y3, y4, y5) => [(7, (.var [.cell (.int .i64 y1), .cell (.bool y2), .arr (.int .i64) 16 y3, .arr (.int .i64) 9 y4])), (30, (.var [.arr (.int .i64) 16 y5])), (29, (.var [.cell (.int .i64 x6), .cell (.bool x7), .cell .nils])), (31, (.lpb ⟨#[19], part Try.f33 2, part Try.f33 3, 37, [(2, (.r (.at (.ptr 29 0 0)))), (4, (.r (.at (.ptr 7 0 0)))), (6, (.r (.at (.ptr 30 0 0)))), (18, (.r (.at (.app1 (.fn 72) (.ptr 7 0 0)))))]⟩))]
noncomputable def f78_A (x1 : Int) (x2 : Int) (x3 : Bool) (x4 : List Int) (x5 : List Int) (x6 : Int) (x7 : Bool) (x8 : List Int) : List G := [(.r (.at (.ptr 7 0 0))), (.r (.at (.int .i64 x1))), (.r (.at (.yl 31)))]
noncomputable def f78_K (x1 : Int) (x2 : Int) (x3 : Bool) (x4 : List Int) (x5 : List Int) (x6 : Int) (x7 : Bool) (x8 : List Int) : List (Nat × Blk) := [(7, (.var [.cell (.int .i64 x2), .cell (.bool x3), .arr (.int .i64) 16 x4, .arr (.int .i64) 9 x5])), (29, (.var [.cell (.int .i64 x6), .cell (.bool x7), .cell .nils])), (30, (.var [.arr (.int .i64) 16 x8])), (31, (.lpb ⟨#[19], part Try.f33 2, part Try.f33 3, 37, [(2, (.r (.at (.ptr 29 0 0)))), (4, (.r (.at (.ptr 7 0 0)))), (6, (.r (.at (.ptr 30 0 0)))), (18, (.r (.at (.app1 (.fn 72) (.ptr 7 0 0)))))]⟩))]
def f78_C (x1 : Int) (x2 : Int) (x3 : Bool) (x4 : List Int) (x5 : List Int) (x6 : Int) (x7 : Bool) (x8 : List Int) (r : Bool × Int × Bool × (List Int) × (List Int) × (List Int)) : Prop := CallOK cx 78 (f78_A x1 x2 x3 x4 x5 x6 x7 x8) (f78_K x1 x2 x3 x4 x5 x6 x7 x8) [] (f78_v r) (f78_k x1 x2 x3 x4 x5 x6 x7 x8 r)

def f72_1_M : List Nat := []
noncomputable def f72_1_v : (Int × Bool × (List Int) × (List Int) × (List Int)) → G := fun (y0, y1, y2, y3, y4) => (.r (.at .unit0))
noncomputable def f72_1_k0 : (Int × Bool × (List Int) × (List Int) × (List Int)) → List (Nat × Blk) := fun (y0, y1, y2, y3, y4) => [(7, (.var [.cell (.int .i64 y0), .cell (.bool y1), .arr (.int .i64) 16 y2, .arr (.int .i64) 9 y3])), (30, (.var [.arr (.int .i64) 16 y4]))]
noncomputable def f72_1_k (x1 : Int) (x2 : Bool) (x3 : List Int) (x4 : List Int) (x5 : Int) (x6 : Bool) (x7 : List Int) : (Int × Bool × (List Int) × (List Int) × (List Int)) → List (Nat × Blk) := fun (y0, y1, y2, y3, y4) => [(7, (.var [.cell (.int .i64 y0), .cell (.bool y1), .arr (.int .i64) 16 y2, .arr (.int .i64) 9 y3])), (30, (.var [.arr (.int .i64) 16 y4])), (29, (.var [.cell (.int .i64 x5), .cell (.bool x6), .cell .nils])), (31, (.lpb ⟨#[19], part Try.f33 2, part Try.f33 3, 37, [(2, (.r (.at (.ptr 29 0 0)))), (4, (.r (.at (.ptr 7 0 0)))), (6, (.r (.at (.ptr 30 0 0)))), (18, (.r (.at (.app1 (.fn 72) (.ptr 7 0 0)))))]⟩))]
noncomputable def f72_1_A (x1 : Int) (x2 : Bool) (x3 : List Int) (x4 : List Int) (x5 : Int) (x6 : Bool) (x7 : List Int) : List G := [(.r (.at (.ptr 7 0 0))), (.r (.at (.yl 31)))]
noncomputable def f72_1_K (x1 : Int) (x2 : Bool) (x3 : List Int) (x4 : List Int) (x5 : Int) (x6 : Bool) (x7 : List Int) : List (Nat × Blk) := [(7, (.var [.cell (.int .i64 x1), .cell (.bool x2), .arr (.int .i64) 16 x3, .arr (.int .i64) 9 x4])), (29, (.var [.cell (.int .i64 x5), .cell (.bool x6), .cell .nils])), (30, (.var [.arr (.int .i64) 16 x7])), (31, (.lpb ⟨#[19], part Try.f33 2, part Try.f33 3, 37, [(2, (.r (.at (.ptr 29 0 0)))), (4, (.r (.at (.ptr 7 0 0)))), (6, (.r (.at (.ptr 30 0 0)))), (18, (.r (.at (.app1 (.fn 72) (.ptr 7 0 0)))))]⟩))]
def f72_1_C (x1 : Int) (x2 : Bool) (x3 : List Int) (x4 : List Int) (x5 : Int) (x6 : Bool) (x7 : List Int) (r : Int × Bool × (List Int) × (List Int) × (List Int)) : Prop := CallOK cx 72 (f72_1_A x1 x2 x3 x4 x5 x6 x7) (f72_1_K x1 x2 x3 x4 x5 x6 x7) [] (f72_1_v r) (f72_1_k x1 x2 x3 x4 x5 x6 x7 r)

def f33_M : List Nat := [7, 28, 29, 30, 31]
noncomputable def f33_v : (Int × Bool × (List Int) × Int) → G := fun (y0, y1, y2, y3) => (.tup [(.agg [.cell (.int .i64 y0), .cell (.bool y1), .cell (.lst (.int .i64) y2 false)]), (.at (.int .i64 y3))])
noncomputable def f33_k0 : (Int × Bool × (List Int) × Int) → List (Nat × Blk) := fun (y0, y1, y2, y3) => []
noncomputable def f33_k (x1 : Int) (x2 : Bool) (x3 : List Int) : (Int × Bool × (List Int) × Int) → List (Nat × Blk) := fun (y0, y1, y2, y3) => []
noncomputable def f33_A (x1 : Int) (x2 : Bool) (x3 : List Int) : List G := [(.r (.agg [.cell (.int .i64 x1), .cell (.bool x2), .cell (.lst (.int .i64) x3 false)]))]
noncomputable def f33_K (x1 : Int) (x2 : Bool) (x3 : List Int) : List (Nat × Blk) := []
def f33_C (x1 : Int) (x2 : Bool) (x3 : List Int) (r : Int × Bool × (List Int) × Int) : Prop := CallOK cx 33 (f33_A x1 x2 x3) (f33_K x1 x2 x3) [] (f33_v r) (f33_k x1 x2 x3 r)

def f72_2_M : List Nat := []
noncomputable def f72_2_v : f72_2_R → G := fun r => nomatch r
noncomputable def f72_2_k0 : f72_2_R → List (Nat × Blk) := fun r => nomatch r
noncomputable def f72_2_k (x1 : Int) : f72_2_R → List (Nat × Blk) := fun r => nomatch r
noncomputable def f72_2_A (x1 : Int) : List G := [(.r (.at .nilp)), (.r (.at (.yl 36)))]
noncomputable def f72_2_K (x1 : Int) : List (Nat × Blk) := [(35, (.var [.cell (.int .i64 x1)])), (36, (.lpb ⟨#[17], part Try.f35 2, part Try.f35 3, 21, [(6, (.r (.at (.ptr 35 0 0)))), (16, (.r (.at (.app1 (.fn 72) .nilp))))]⟩))]
def f72_2_C (x1 : Int) (r : f72_2_R) : Prop := CallOK cx 72 (f72_2_A x1) (f72_2_K x1) [] (f72_2_v r) (f72_2_k x1 r)

def f35_y0_M : List Nat := []
noncomputable def f35_y0_Q (x1 : List Int) (x2 : Int) (x3 : Bool) (x4 : List Int) (x5 : List Int) (x6 : Int) : LpRec := ⟨#[17], part Try.f35 2, part Try.f35 3, 21, [(6, (.r (.at (.ptr 35 0 0)))), (16, (.r (.at (.app1 (.fn 72) (.ptr 7 0 0)))))]⟩
noncomputable def f35_y0_k0 : Int → List (Nat × Blk) := fun y0 => [(35, (.var [.cell (.int .i64 y0)]))]
noncomputable def f35_y0_k (x1 : List Int) (x2 : Int) (x3 : Bool) (x4 : List Int) (x5 : List Int) (x6 : Int) : Int → List (Nat × Blk) := fun y0 => [(35, (.var [.cell (.int .i64 y0)])), (7, (.var [.cell (.int .i64 x2), .cell (.bool x3), .arr (.int .i64) 16 x4, .arr (.int .i64) 9 x5]))]
noncomputable def f35_y0_A (x1 : List Int) (x2 : Int) (x3 : Bool) (x4 : List Int) (x5 : List Int) (x6 : Int) : List G := [(.r (.agg [.arr (.int .i64) 16 x1]))]
noncomputable def f35_y0_K (x1 : List Int) (x2 : Int) (x3 : Bool) (x4 : List Int) (x5 : List Int) (x6 : Int) : List (Nat × Blk) := [(7, (.var [.cell (.int .i64 x2), .cell (.bool x3), .arr (.int .i64) 16 x4, .arr (.int .i64) 9 x5])), (35, (.var [.cell (.int .i64 x6)]))]
def f35_y0_C (x1 : List Int) (x2 : Int) (x3 : Bool) (x4 : List Int) (x5 : List Int) (x6 : Int) (r : Int) : Prop := YOK cx (f35_y0_Q x1 x2 x3 x4 x5 x6) (f35_y0_A x1 x2 x3 x4 x5 x6) (f35_y0_K x1 x2 x3 x4 x5 x6) [] (f35_y0_k x1 x2 x3 x4 x5 x6 r)

def f78_1_M : List Nat := []
noncomputable def f78_1_p1_H (x2 : Int) (x3 : Bool) (x4 : List Int) (x5 : List Int) (x6 : Int) (x7 : Int) : GS := ⟨[(0, (.r (.at (.ptr 7 0 0)))), (1, (.r (.at (.int .i64 x7)))), (2, (.r (.at (.yl 36))))], [(7, (.var [.cell (.int .i64 x2), .cell (.bool x3), .arr (.int .i64) 16 x4, .arr (.int .i64) 9 x5])), (35, (.var [.cell (.int .i64 x6)])), (36, (.lpb ⟨#[17], part Try.f35 2, part Try.f35 3, 21, [(6, (.r (.at (.ptr 35 0 0)))), (16, (.r (.at (.app1 (.fn 72) (.ptr 7 0 0)))))]⟩))]⟩
noncomputable def f78_1_p1_x : Int → GExit := fun y0 => (.exit 0)
noncomputable def f78_1_p1_s (x2 : Int) (x3 : Bool) (x4 : List Int) (x5 : List Int) (x6 : Int) : Int → GS := fun y0 => ⟨[(0, (.r (.at (.ptr 7 0 0)))), (1, (.r (.at (.int .i64 y0)))), (2, (.r (.at (.yl 36))))], [(7, (.var [.cell (.int .i64 x2), .cell (.bool x3), .arr (.int .i64) 16 x4, .arr (.int .i64) 9 x5])), (35, (.var [.cell (.int .i64 x6)])), (36, (.lpb ⟨#[17], part Try.f35 2, part Try.f35 3, 21, [(6, (.r (.at (.ptr 35 0 0)))), (16, (.r (.at (.app1 (.fn 72) (.ptr 7 0 0)))))]⟩))]⟩
def f78_1_p1_P (x2 : Int) (x3 : Bool) (x4 : List Int) (x5 : List Int) (x6 : Int) (x7 : Int) (r : Int) : Prop := Lp cx f78_1_M 56 (part Try.f78 1) (f78_1_p1_H x2 x3 x4 x5 x6 x7) (f78_1_p1_x r) (f78_1_p1_s x2 x3 x4 x5 x6 r)
noncomputable def f78_1_p6_H (x9 : Int) (x11 : Int) (x28 : Int) (x29 : Int) (x30 : Bool) (x31 : List Int) (x32 : List Int) (x33 : Int) : GS := ⟨[(0, (.r (.at (.ptr 7 0 0)))), (1, (.r (.at (.int .i64 x9)))), (2, (.r (.at (.yl 36)))), (31, (.r (.at (.int .i64 x11)))), (32, (.r (.at (.int .i64 x28))))], [(7, (.var [.cell (.int .i64 x29), .cell (.bool x30), .arr (.int .i64) 16 x31, .arr (.int .i64) 9 x32])), (35, (.var [.cell (.int .i64 x33)])), (36, (.lpb ⟨#[17], part Try.f35 2, part Try.f35 3, 21, [(6, (.r (.at (.ptr 35 0 0)))), (16, (.r (.at (.app1 (.fn 72) (.ptr 7 0 0)))))]⟩))]⟩
noncomputable def f78_1_p6_x : f78_1_p6_R → GExit := fun
  | .c0 y0 y1 y2 y3 y4 => .ret
  | .c1 y0 y1 y2 y3 y4 => (.exit 2)
noncomputable def f78_1_p6_s (x9 : Int) (x11 : Int) : f78_1_p6_R → GS := fun
  | .c0 y0 y1 y2 y3 y4 => ⟨[(6, (.r (.at (.bool false))))], [(7, (.var [.cell (.int .i64 y0), .cell (.bool y1), .arr (.int .i64) 16 y2, .arr (.int .i64) 9 y3])), (35, (.var [.cell (.int .i64 y4)])), (36, (.lpb ⟨#[17], part Try.f35 2, part Try.f35 3, 21, [(6, (.r (.at (.ptr 35 0 0)))), (16, (.r (.at (.app1 (.fn 72) (.ptr 7 0 0)))))]⟩))]⟩
  | .c1 y0 y1 y2 y3 y4 => ⟨[], [(7, (.var [.cell (.int .i64 y0), .cell (.bool y1), .arr (.int .i64) 16 y2, .arr (.int .i64) 9 y3])), (35, (.var [.cell (.int .i64 y4)])), (36, (.lpb ⟨#[17], part Try.f35 2, part Try.f35 3, 21, [(6, (.r (.at (.ptr 35 0 0)))), (16, (.r (.at (.app1 (.fn 72) (.ptr 7 0 0)))))]⟩))]⟩
def f78_1_p6_P (x9 : Int) (x11 : Int) (x28 : Int) (x29 : Int) (x30 : Bool) (x31 : List Int) (x32 : List Int) (x33 : Int) (r : f78_1_p6_R) : Prop := Lp cx f78_1_M 56 (part Try.f78 6) (f78_1_p6_H x9 x11 x28 x29 x30 x31 x32 x33) (f78_1_p6_x r) (f78_1_p6_s x9 x11 r)
noncomputable def f78_1_v : (Bool × Int × Bool × (List Int) × (List Int) × Int) → G := fun (y0, y1, y2, y3, y4, y5) => (.r (.at (.bool y0)))
noncomputable def f78_1_k0 : (Bool × Int × Bool × (List Int) × (List Int) × Int) → List (Nat × Blk) := fun (y0, y1, y2, y3, y4, y5) => [(7, (.var [.cell (.int .i64 y1), .cell (.bool y2), .arr (.int .i64) 16 y3, .arr (.int .i64) 9 y4])), (35, (.var [.cell (.int .i64 y5)]))]
noncomputable def f78_1_k (x1 : Int) (x2 : Int) (x3 : Bool) (x4 : List Int) (x5 : List Int) (x6 : Int) : (Bool × Int × Bool × (List Int) × (List Int) × Int) → List (Nat × Blk) := fun (y0, y1, y2, y3, y4, y5) => [(7, (.var [.cell (.int .i64 y1), .cell (.bool y2), .arr (.int .i64) 16 y3, .arr (.int .i64) 9 y4])), (35, (.var [.cell (.int .i64 y5)])), (36, (.lpb ⟨#[17], part Try.f35 2, part Try.f35 3, 21, [(6, (.r (.at (.ptr 35 0 0)))), (16, (.r (.at (.app1 (.fn 72) (.ptr 7 0 0)))))]⟩))]
noncomputable def f78_1_A (x1 : Int) (x2 : Int) (x3 : Bool) (x4 : List Int) (x5 : List Int) (x6 : Int) : List G := [(.r (.at (.ptr 7 0 0))), (.r (.at (.int .i64 x1))), (.r (.at (.yl 36)))]
noncomputable def f78_1_K (x1 : Int) (x2 : Int) (x3 : Bool) (x4 : List Int) (x5 : List Int) (x6 : Int) : List (Nat × Blk) := [(7, (.var [.cell (.int .i64 x2), .cell (.bool x3), .arr (.int .i64) 16 x4, .arr (.int .i64) 9 x5])), (35, (.var [.cell (.int .i64 x6)])), (36, (.lpb ⟨#[17], part Try.f35 2, part Try.f35 3, 21, [(6, (.r (.at (.ptr 35 0 0)))), (16, (.r (.at (.app1 (.fn 72) (.ptr 7 0 0)))))]⟩))]
def f78_1_C (x1 : Int) (x2 : Int) (x3 : Bool) (x4 : List Int) (x5 : List Int) (x6 : Int) (r : Bool × Int × Bool × (List Int) × (List Int) × Int) : Prop := CallOK cx 78 (f78_1_A x1 x2 x3 x4 x5 x6) (f78_1_K x1 x2 x3 x4 x5 x6) [] (f78_1_v r) (f78_1_k x1 x2 x3 x4 x5 x6 r)

def f72_3_M : List Nat := []
noncomputable def f72_3_v : (Int × Bool × (List Int) × (List Int) × Int) → G := fun (y0, y1, y2, y3, y4) => (.r (.at .unit0))
noncomputable def f72_3_k0 : (Int × Bool × (List Int) × (List Int) × Int) → List (Nat × Blk) := fun (y0, y1, y2, y3, y4) => [(7, (.var [.cell (.int .i64 y0), .cell (.bool y1), .arr (.int .i64) 16 y2, .arr (.int .i64) 9 y3])), (35, (.var [.cell (.int .i64 y4)]))]
noncomputable def f72_3_k (x1 : Int) (x2 : Bool) (x3 : List Int) (x4 : List Int) (x5 : Int) : (Int × Bool × (List Int) × (List Int) × Int) → List (Nat × Blk) := fun (y0, y1, y2, y3, y4) => [(7, (.var [.cell (.int .i64 y0), .cell (.bool y1), .arr (.int .i64) 16 y2, .arr (.int .i64) 9 y3])), (35, (.var [.cell (.int .i64 y4)])), (36, (.lpb ⟨#[17], part Try.f35 2, part Try.f35 3, 21, [(6, (.r (.at (.ptr 35 0 0)))), (16, (.r (.at (.app1 (.fn 72) (.ptr 7 0 0)))))]⟩))]
noncomputable def f72_3_A (x1 : Int) (x2 : Bool) (x3 : List Int) (x4 : List Int) (x5 : Int) : List G := [(.r (.at (.ptr 7 0 0))), (.r (.at (.yl 36)))]
noncomputable def f72_3_K (x1 : Int) (x2 : Bool) (x3 : List Int) (x4 : List Int) (x5 : Int) : List (Nat × Blk) := [(7, (.var [.cell (.int .i64 x1), .cell (.bool x2), .arr (.int .i64) 16 x3, .arr (.int .i64) 9 x4])), (35, (.var [.cell (.int .i64 x5)])), (36, (.lpb ⟨#[17], part Try.f35 2, part Try.f35 3, 21, [(6, (.r (.at (.ptr 35 0 0)))), (16, (.r (.at (.app1 (.fn 72) (.ptr 7 0 0)))))]⟩))]
def f72_3_C (x1 : Int) (x2 : Bool) (x3 : List Int) (x4 : List Int) (x5 : Int) (r : Int × Bool × (List Int) × (List Int) × Int) : Prop := CallOK cx 72 (f72_3_A x1 x2 x3 x4 x5) (f72_3_K x1 x2 x3 x4 x5) [] (f72_3_v r) (f72_3_k x1 x2 x3 x4 x5 r)

def f35_M : List Nat := [7, 34, 35, 36]
noncomputable def f35_v : (Int × Int) → G := fun (y0, y1) => (.tup [(.at (.int .i64 y0)), (.at (.int .i64 y1))])
noncomputable def f35_k0 : (Int × Int) → List (Nat × Blk) := fun (y0, y1) => []
noncomputable def f35_k (x1 : Int) (x2 : Bool) (x3 : List Int) : (Int × Int) → List (Nat × Blk) := fun (y0, y1) => []
noncomputable def f35_A (x1 : Int) (x2 : Bool) (x3 : List Int) : List G := [(.r (.agg [.cell (.int .i64 x1), .cell (.bool x2), .cell (.lst (.int .i64) x3 false)]))]
noncomputable def f35_K (x1 : Int) (x2 : Bool) (x3 : List Int) : List (Nat × Blk) := []
def f35_C (x1 : Int) (x2 : Bool) (x3 : List Int) (r : Int × Int) : Prop := CallOK cx 35 (f35_A x1 x2 x3) (f35_K x1 x2 x3) [] (f35_v r) (f35_k x1 x2 x3 r)

def f44_2_M : List Nat := [41]
noncomputable def f44_2_v : (List Int) → G := fun y0 => (.r (.at (.sl 41 0 (List.length y0))))
noncomputable def f44_2_k0 : (List Int) → List (Nat × Blk) := fun y0 => [(41, (.gr (.int .i64) 3 y0 true))]
noncomputable def f44_2_k (x1 : List Int) : (List Int) → List (Nat × Blk) := fun y0 => [(41, (.gr (.int .i64) 3 y0 true))]
noncomputable def f44_2_A (x1 : List Int) : List G := [(.r (.at (.lst (.int .i64) x1 false)))]
noncomputable def f44_2_K (x1 : List Int) : List (Nat × Blk) := []
def f44_2_C (x1 : List Int) (r : (List Int)) : Prop := CallOK cx 44 (f44_2_A x1) (f44_2_K x1) [] (f44_2_v r) (f44_2_k x1 r)

def f62_1_M : List Nat := [39, 40, 41]
noncomputable def f62_1_v : (Int × Bool × (List Int)) → G := fun (y0, y1, y2) => (.r (.agg [.cell (.int .i64 y0), .cell (.bool y1), .cell (.sl 41 0 (List.length y2))]))
noncomputable def f62_1_k0 : (Int × Bool × (List Int)) → List (Nat × Blk) := fun (y0, y1, y2) => [(41, (.gr (.int .i64) 3 y2 true))]
noncomputable def f62_1_k (x1 : List Int) (x2 : Int) (x3 : Bool) (x4 : List Int) (x5 : List Int) : (Int × Bool × (List Int)) → List (Nat × Blk) := fun (y0, y1, y2) => [(41, (.gr (.int .i64) 3 y2 true)), (7, (.var [.cell (.int .i64 x2), .cell (.bool x3), .arr (.int .i64) 16 x4, .arr (.int .i64) 9 x5]))]
noncomputable def f62_1_A (x1 : List Int) (x2 : Int) (x3 : Bool) (x4 : List Int) (x5 : List Int) : List G := [(.r (.at (.ptr 7 0 0))), (.r (.agg [.arr (.int .i64) 16 x1]))]
noncomputable def f62_1_K (x1 : List Int) (x2 : Int) (x3 : Bool) (x4 : List Int) (x5 : List Int) : List (Nat × Blk) := [(7, (.var [.cell (.int .i64 x2), .cell (.bool x3), .arr (.int .i64) 16 x4, .arr (.int .i64) 9 x5]))]
def f62_1_C (x1 : List Int) (x2 : Int) (x3 : Bool) (x4 : List Int) (x5 : List Int) (r : Int × Bool × (List Int)) : Prop := CallOK cx 62 (f62_1_A x1 x2 x3 x4 x5) (f62_1_K x1 x2 x3 x4 x5) [] (f62_1_v r) (f62_1_k x1 x2 x3 x4 x5 r)

def f76_M : List Nat := []
noncomputable def f76_p1_H (x1 : Nat) (x2 : Nat) (x9 : Int) (x10 : Int) (x8 : List Int) : GS := ⟨[(0, (.r (.at (.sl 41 x1 x2)))), (2, (.r (.at (.int .i64 x9)))), (3, (.r (.at (.int .i64 x10))))], [(41, (.gr (.int .i64) 3 x8 true))]⟩
noncomputable def f76_p1_x : (List Int) → GExit := fun y0 => (.exit 0)
noncomputable def f76_p1_s (x1 : Nat) (x2 : Nat) : (List Int) → GS := fun y0 => ⟨[], [(41, (.gr (.int .i64) 3 y0 true))]⟩
def f76_p1_P (x1 : Nat) (x2 : Nat) (x9 : Int) (x10 : Int) (x8 : List Int) (r : (List Int)) : Prop := Lp cx f76_M 28 (part Try.f76 1) (f76_p1_H x1 x2 x9 x10 x8) (f76_p1_x r) (f76_p1_s x1 x2 r)
noncomputable def f76_v : (List Int) → G := fun y0 => (.r (.at .unit0))
noncomputable def f76_k0 : (List Int) → List (Nat × Blk) := fun y0 => [(41, (.gr (.int .i64) 3 y0 true))]
noncomputable def f76_k (x1 : Nat) (x2 : Nat) (x3 : List Int) : (List Int) → List (Nat × Blk) := fun y0 => [(41, (.gr (.int .i64) 3 y0 true))]
noncomputable def f76_A (x1 : Nat) (x2 : Nat) (x3 : List Int) : List G := [(.r (.at (.sl 41 x1 x2)))]
noncomputable def f76_K (x1 : Nat) (x2 : Nat) (x3 : List Int) : List (Nat × Blk) := [(41, (.gr (.int .i64) 3 x3 true))]
def f76_C (x1 : Nat) (x2 : Nat) (x3 : List Int) (r : (List Int)) : Prop := CallOK cx 76 (f76_A x1 x2 x3) (f76_K x1 x2 x3) [] (f76_v r) (f76_k x1 x2 x3 r)

def f47_M : List Nat := [7, 37, 38, 41, 42]
noncomputable def f47_v : (Int × Bool × (List Int) × Int) → G := fun (y0, y1, y2, y3) => (.tup [(.agg [.cell (.int .i64 y0), .cell (.bool y1), .cell (.lst (.int .i64) y2 false)]), (.at (.int .i64 y3))])
noncomputable def f47_k0 : (Int × Bool × (List Int) × Int) → List (Nat × Blk) := fun (y0, y1, y2, y3) => []
noncomputable def f47_k (x1 : Int) (x2 : Bool) (x3 : List Int) : (Int × Bool × (List Int) × Int) → List (Nat × Blk) := fun (y0, y1, y2, y3) => []
noncomputable def f47_A (x1 : Int) (x2 : Bool) (x3 : List Int) : List G := [(.r (.agg [.cell (.int .i64 x1), .cell (.bool x2), .cell (.lst (.int .i64) x3 false)]))]
noncomputable def f47_K (x1 : Int) (x2 : Bool) (x3 : List Int) : List (Nat × Blk) := []
def f47_C (x1 : Int) (x2 : Bool) (x3 : List Int) (r : Int × Bool × (List Int) × Int) : Prop := CallOK cx 47 (f47_A x1 x2 x3) (f47_K x1 x2 x3) [] (f47_v r) (f47_k x1 x2 x3 r)

def f55_M : List Nat := []
noncomputable def f55_v : (List Int) → G := fun y0 => (.r (.at (.lst (.int .i64) y0 false)))
noncomputable def f55_k0 : (List Int) → List (Nat × Blk) := fun y0 => []
noncomputable def f55_k (x1 : List Int) : (List Int) → List (Nat × Blk) := fun y0 => []
noncomputable def f55_A (x1 : List Int) : List G := [(.r (.at (.lst (.int .i64) x1 false)))]
noncomputable def f55_K (x1 : List Int) : List (Nat × Blk) := []
def f55_C (x1 : List Int) (r : (List Int)) : Prop := CallOK cx 55 (f55_A x1) (f55_K x1) [] (f55_v r) (f55_k x1 r)

def f22_M : List Nat := []
noncomputable def f22_p2_H (x1 : List Int) (x2 : List Int) (x3 : Int) : GS := ⟨[(0, (.r (.at (.lst (.int .i64) x1 false)))), (1, (.r (.at (.lst (.int .i64) x2 false)))), (5, (.r (.at (.int .i64 x3))))], []⟩
noncomputable def f22_p2_x : f22_p2_R → GExit := fun
  | .c0 => .ret
  | .c1 => (.exit 0)
noncomputable def f22_p2_s (x1 : List Int) (x2 : List Int) : f22_p2_R → GS := fun
  | .c0 => ⟨[(4, (.r (.at (.bool false))))], []⟩
  | .c1 => ⟨[], []⟩
def f22_p2_P (x1 : List Int) (x2 : List Int) (x3 : Int) (r : f22_p2_R) : Prop := Lp cx f22_M 26 (part Try.f22 2) (f22_p2_H x1 x2 x3) (f22_p2_x r) (f22_p2_s x1 x2 r)
noncomputable def f22_v : Bool → G := fun y0 => (.r (.at (.bool y0)))
noncomputable def f22_k0 : Bool → List (Nat × Blk) := fun y0 => []
noncomputable def f22_k (x1 : List Int) (x2 : List Int) : Bool → List (Nat × Blk) := fun y0 => []
noncomputable def f22_A (x1 : List Int) (x2 : List Int) : List G := [(.r (.at (.lst (.int .i64) x1 false))), (.r (.at (.lst (.int .i64) x2 false)))]
noncomputable def f22_K (x1 : List Int) (x2 : List Int) : List (Nat × Blk) := []
def f22_C (x1 : List Int) (x2 : List Int) (r : Bool) : Prop := CallOK cx 22 (f22_A x1 x2) (f22_K x1 x2) [] (f22_v r) (f22_k x1 x2 r)

def f14_M : List Nat := [18, 22, 33, 43]
noncomputable def f14_v : Bool → G := fun y0 => (.r (.at (.bool y0)))
noncomputable def f14_k0 : Bool → List (Nat × Blk) := fun y0 => []
noncomputable def f14_k : Bool → List (Nat × Blk) := fun y0 => []
noncomputable def f14_A : List G := []
noncomputable def f14_K : List (Nat × Blk) := []
def f14_C (r : Bool) : Prop := CallOK cx 14 (f14_A) (f14_K) [] (f14_v r) (f14_k r)

def f37_M : List Nat := []
noncomputable def f37_v : Int → G := fun y0 => (.r (.at (.int .i64 y0)))
noncomputable def f37_k0 : Int → List (Nat × Blk) := fun y0 => []
noncomputable def f37_k (x1 : Int) (x2 : Bool) : Int → List (Nat × Blk) := fun y0 => []
noncomputable def f37_A (x1 : Int) (x2 : Bool) : List G := [(.r (.at (.int .i64 x1))), (.r (.at (.bool x2)))]
noncomputable def f37_K (x1 : Int) (x2 : Bool) : List (Nat × Blk) := []
def f37_C (x1 : Int) (x2 : Bool) (r : Int) : Prop := CallOK cx 37 (f37_A x1 x2) (f37_K x1 x2) [] (f37_v r) (f37_k x1 x2 r)

def f42_1_M : List Nat := []
noncomputable def f42_1_p1_H (x1 : List Int) (x2 : Option (List Int)) (x3 : Int) : GS := ⟨[(0, (.r (.at (.lst (.int .i64) x1 false)))), (1, (.r (.at (.olst (.int .i64) x2)))), (9, (.r (.at (.lst (.int .i64) x1 false)))), (10, (.r (.at (.int .i64 ((List.length x1 : Nat) : Int))))), (11, (.r (.at (.int .i64 x3))))], []⟩
noncomputable def f42_1_p1_x : f42_1_p1_R → GExit := fun
  | .c0 y0 => .ret
  | .c1 => (.exit 0)
noncomputable def f42_1_p1_s (x1 : List Int) (x2 : Option (List Int)) : f42_1_p1_R → GS := fun
  | .c0 y0 => ⟨[(4, (.r (.at (.int .i64 y0))))], []⟩
  | .c1 => ⟨[(0, (.r (.at (.lst (.int .i64) x1 false)))), (1, (.r (.at (.olst (.int .i64) x2))))], []⟩
def f42_1_p1_P (x1 : List Int) (x2 : Option (List Int)) (x3 : Int) (r : f42_1_p1_R) : Prop := Lp cx f42_1_M 36 (part Try.f42 1) (f42_1_p1_H x1 x2 x3) (f42_1_p1_x r) (f42_1_p1_s x1 x2 r)
noncomputable def f42_1_v : Int → G := fun y0 => (.r (.at (.int .i64 y0)))
noncomputable def f42_1_k0 : Int → List (Nat × Blk) := fun y0 => []
noncomputable def f42_1_k (x1 : List Int) (x2 : Option (List Int)) : Int → List (Nat × Blk) := fun y0 => []
noncomputable def f42_1_A (x1 : List Int) (x2 : Option (List Int)) : List G := [(.r (.at (.lst (.int .i64) x1 false))), (.r (.at (.olst (.int .i64) x2)))]
noncomputable def f42_1_K (x1 : List Int) (x2 : Option (List Int)) : List (Nat × Blk) := []
def f42_1_C (x1 : List Int) (x2 : Option (List Int)) (r : Int) : Prop := CallOK cx 42 (f42_1_A x1 x2) (f42_1_K x1 x2) [] (f42_1_v r) (f42_1_k x1 x2 r)

def f22_1_M : List Nat := []
noncomputable def f22_1_p2_H (x1 : List Int) (x2 : Option (List Int)) (x3 : Int) : GS := ⟨[(0, (.r (.at (.lst (.int .i64) x1 false)))), (1, (.r (.at (.olst (.int .i64) x2)))), (5, (.r (.at (.int .i64 x3))))], []⟩
noncomputable def f22_1_p2_x : f22_1_p2_R → GExit := fun
  | .c0 => .ret
  | .c1 => (.exit 0)
noncomputable def f22_1_p2_s (x1 : List Int) (x2 : Option (List Int)) : f22_1_p2_R → GS := fun
  | .c0 => ⟨[(4, (.r (.at (.bool false))))], []⟩
  | .c1 => ⟨[], []⟩
def f22_1_p2_P (x1 : List Int) (x2 : Option (List Int)) (x3 : Int) (r : f22_1_p2_R) : Prop := Lp cx f22_1_M 26 (part Try.f22 2) (f22_1_p2_H x1 x2 x3) (f22_1_p2_x r) (f22_1_p2_s x1 x2 r)
noncomputable def f22_1_v : Bool → G := fun y0 => (.r (.at (.bool y0)))
noncomputable def f22_1_k0 : Bool → List (Nat × Blk) := fun y0 => []
noncomputable def f22_1_k (x1 : List Int) (x2 : Option (List Int)) : Bool → List (Nat × Blk) := fun y0 => []
noncomputable def f22_1_A (x1 : List Int) (x2 : Option (List Int)) : List G := [(.r (.at (.lst (.int .i64) x1 false))), (.r (.at (.olst (.int .i64) x2)))]
noncomputable def f22_1_K (x1 : List Int) (x2 : Option (List Int)) : List (Nat × Blk) := []
def f22_1_C (x1 : List Int) (x2 : Option (List Int)) (r : Bool) : Prop := CallOK cx 22 (f22_1_A x1 x2) (f22_1_K x1 x2) [] (f22_1_v r) (f22_1_k x1 x2 r)

def f43_M : List Nat := [92, 93, 94, 95]
noncomputable def f43_p4_1_H (x13 : Int) (x14 : Int) (x1 : Int) (x5 : Int) (x15 : Int) (x17 : Int) (x2 : Bool) (x3 : List Int) (x4 : Int) (x12 : List Int) : GS := ⟨[(2, (.r (.at (.ptr 92 0 0)))), (4, (.r (.at (.ptr 93 0 0)))), (5, (.r (.at (.ptr 94 0 0)))), (6, (.r (.at (.int .i64 x13)))), (7, (.r (.at (.int .i64 (Int.tmod (w64 (x14)) (((Int.toNat (w64 (2 * (w64 (1 + (Int.tmod (w64 (x1)) x5)))))) : Nat) : Int)))))), (8, (.r (.at (.int .i64 (w64 ((Int.tmod (w64 (x14)) (((Int.toNat (w64 (2 * (w64 (1 + (Int.tmod (w64 (x1)) x5)))))) : Nat) : Int)) + x15)))))), (74, (.r (.at (.bool (x17 == 0)))))], [(92, (.var [.cell (.int .u8 x1), .cell (.bool x2), .arr (.int .u8) 8 x3, .cell (.int .u8 x4)])), (93, (.var [.cell (.int .i64 0), .cell (.bool false), .cell .nils])), (94, (.var [.cell (.int .i64 (w64 (1 + (Int.tmod (w64 (x1)) x5)))), .cell (.bool x2), .cell (.sl 95 0 (Int.toNat (w64 (2 * (w64 (1 + (Int.tmod (w64 (x1)) x5)))))))])), (95, (.gr (.int .i64) 3 x12 true))]⟩
noncomputable def f43_p4_1_x : (List Int) → GExit := fun y0 => .normal
noncomputable def f43_p4_1_s (x13 : Int) (x14 : Int) (x1 : Int) (x5 : Int) (x15 : Int) (x17 : Int) (x2 : Bool) (x3 : List Int) (x4 : Int) (x12 : List Int) : (List Int) → GS := fun y0 => ⟨[(2, (.r (.at (.ptr 92 0 0)))), (4, (.r (.at (.ptr 93 0 0)))), (5, (.r (.at (.ptr 94 0 0)))), (6, (.r (.at (.int .i64 x13))))], [(92, (.var [.cell (.int .u8 x1), .cell (.bool x2), .arr (.int .u8) 8 x3, .cell (.int .u8 x4)])), (93, (.var [.cell (.int .i64 0), .cell (.bool false), .cell .nils])), (94, (.var [.cell (.int .i64 (w64 (1 + (Int.tmod (w64 (x1)) x5)))), .cell (.bool x2), .cell (.sl 95 0 (Int.toNat (w64 (2 * (w64 (1 + (Int.tmod (w64 (x1)) x5)))))))])), (95, (.gr (.int .i64) 3 y0 true))]⟩
def f43_p4_1_P (x13 : Int) (x14 : Int) (x1 : Int) (x5 : Int) (x15 : Int) (x17 : Int) (x2 : Bool) (x3 : List Int) (x4 : Int) (x12 : List Int) (r : (List Int)) : Prop := Ex cx f43_M 86 (part Try.f43 4) (f43_p4_1_H x13 x14 x1 x5 x15 x17 x2 x3 x4 x12) (f43_p4_1_x r) (f43_p4_1_s x13 x14 x1 x5 x15 x17 x2 x3 x4 x12 r)
noncomputable def f43_p1_H (x1 : Int) (x2 : Bool) (x3 : List Int) (x4 : Int) (x5 : Int) (x13 : Int) (x12 : List Int) : GS := ⟨[(2, (.r (.at (.ptr 92 0 0)))), (4, (.r (.at (.ptr 93 0 0)))), (5, (.r (.at (.ptr 94 0 0)))), (6, (.r (.at (.int .i64 x13))))], [(92, (.var [.cell (.int .u8 x1), .cell (.bool x2), .arr (.int .u8) 8 x3, .cell (.int .u8 x4)])), (93, (.var [.cell (.int .i64 0), .cell (.bool false), .cell .nils])), (94, (.var [.cell (.int .i64 (w64 (1 + (Int.tmod (w64 (x1)) x5)))), .cell (.bool x2), .cell (.sl 95 0 (Int.toNat (w64 (2 * (w64 (1 + (Int.tmod (w64 (x1)) x5)))))))])), (95, (.gr (.int .i64) 3 x12 true))]⟩
noncomputable def f43_p1_x : (List Int) → GExit := fun y0 => (.exit 0)
noncomputable def f43_p1_s (x1 : Int) (x2 : Bool) (x3 : List Int) (x4 : Int) (x5 : Int) : (List Int) → GS := fun y0 => ⟨[(4, (.r (.at (.ptr 93 0 0)))), (5, (.r (.at (.ptr 94 0 0))))], [(93, (.var [.cell (.int .i64 0), .cell (.bool false), .cell .nils])), (94, (.var [.cell (.int .i64 (w64 (1 + (Int.tmod (w64 (x1)) x5)))), .cell (.bool x2), .cell (.sl 95 0 (Int.toNat (w64 (2 * (w64 (1 + (Int.tmod (w64 (x1)) x5)))))))])), (95, (.gr (.int .i64) 3 y0 true))]⟩
def f43_p1_P (x1 : Int) (x2 : Bool) (x3 : List Int) (x4 : Int) (x5 : Int) (x13 : Int) (x12 : List Int) (r : (List Int)) : Prop := Lp cx f43_M 86 (part Try.f43 1) (f43_p1_H x1 x2 x3 x4 x5 x13 x12) (f43_p1_x r) (f43_p1_s x1 x2 x3 x4 x5 r)
noncomputable def f43_v : (Int × Bool × (List Int)) → G := fun (y0, y1, y2) => (.r (.agg [.cell (.int .i64 y0), .cell (.bool y1), .cell (.lst (.int .i64) y2 false)]))
noncomputable def f43_k0 : (Int × Bool × (List Int)) → List (Nat × Blk) := fun (y0, y1, y2) => []
noncomputable def f43_k (x1 : Int) (x2 : Bool) (x3 : List Int) (x4 : Int) (x5 : Int) : (Int × Bool × (List Int)) → List (Nat × Blk) := fun (y0, y1, y2) => []
noncomputable def f43_A (x1 : Int) (x2 : Bool) (x3 : List Int) (x4 : Int) (x5 : Int) : List G := [(.r (.agg [.cell (.int .u8 x1), .cell (.bool x2), .arr (.int .u8) 8 x3, .cell (.int .u8 x4)])), (.r (.at (.int .i64 x5)))]
noncomputable def f43_K (x1 : Int) (x2 : Bool) (x3 : List Int) (x4 : Int) (x5 : Int) : List (Nat × Blk) := []
def f43_C (x1 : Int) (x2 : Bool) (x3 : List Int) (x4 : Int) (x5 : Int) (r : Int × Bool × (List Int)) : Prop := CallOK cx 43 (f43_A x1 x2 x3 x4 x5) (f43_K x1 x2 x3 x4 x5) [] (f43_v r) (f43_k x1 x2 x3 x4 x5 r)

def f44_4_M : List Nat := [99]
noncomputable def f44_4_v : (List Int) → G := fun y0 => (.r (.at (.sl 99 0 (List.length y0))))
noncomputable def f44_4_k0 : (List Int) → List (Nat × Blk) := fun y0 => [(99, (.gr (.int .i64) 3 y0 true))]
noncomputable def f44_4_k (x1 : List Int) : (List Int) → List (Nat × Blk) := fun y0 => [(99, (.gr (.int .i64) 3 y0 true))]
noncomputable def f44_4_A (x1 : List Int) : List G := [(.r (.at (.lst (.int .i64) x1 false)))]
noncomputable def f44_4_K (x1 : List Int) : List (Nat × Blk) := []
def f44_4_C (x1 : List Int) (r : (List Int)) : Prop := CallOK cx 44 (f44_4_A x1) (f44_4_K x1) [] (f44_4_v r) (f44_4_k x1 r)

def f44_5_M : List Nat := [100]
noncomputable def f44_5_v : (List Int) → G := fun y0 => (.r (.at (.sl 100 0 (List.length y0))))
noncomputable def f44_5_k0 : (List Int) → List (Nat × Blk) := fun y0 => [(100, (.gr (.int .i64) 3 y0 true))]
noncomputable def f44_5_k (x1 : List Int) : (List Int) → List (Nat × Blk) := fun y0 => [(100, (.gr (.int .i64) 3 y0 true))]
noncomputable def f44_5_A (x1 : List Int) : List G := [(.r (.at (.lst (.int .i64) x1 false)))]
noncomputable def f44_5_K (x1 : List Int) : List (Nat × Blk) := []
def f44_5_C (x1 : List Int) (r : (List Int)) : Prop := CallOK cx 44 (f44_5_A x1) (f44_5_K x1) [] (f44_5_v r) (f44_5_k x1 r)

def f45_M : List Nat := []
noncomputable def f45_p0_H (x1 : List Int) (x4 : Int) (x2 : Int) (x3 : Option (List Int)) : GS := ⟨[(0, (.r (.at (.lst (.int .i64) x1 false)))), (2, (.r (.at (.ptr 98 0 0)))), (13, (.r (.at (.bool (decide (x4 < 0))))))], [(97, (.var [.cell (.int .i64 (w64 (x2 + 1)))])), (98, (.var [.cell (.olst (.int .i64) x3)]))]⟩
noncomputable def f45_p0_x : (Option (List Int)) → GExit := fun y0 => .normal
noncomputable def f45_p0_s (x1 : List Int) (x4 : Int) (x2 : Int) (x3 : Option (List Int)) : (Option (List Int)) → GS := fun y0 => ⟨[], [(97, (.var [.cell (.int .i64 (w64 (x2 + 1)))])), (98, (.var [.cell (.olst (.int .i64) y0)]))]⟩
def f45_p0_P (x1 : List Int) (x4 : Int) (x2 : Int) (x3 : Option (List Int)) (r : (Option (List Int))) : Prop := Ex cx f45_M 15 (part Try.f45 0) (f45_p0_H x1 x4 x2 x3) (f45_p0_x r) (f45_p0_s x1 x4 x2 x3 r)
noncomputable def f45_v : (Int × (Option (List Int))) → G := fun (y0, y1) => (.r (.at .unit0))
noncomputable def f45_k0 : (Int × (Option (List Int))) → List (Nat × Blk) := fun (y0, y1) => [(97, (.var [.cell (.int .i64 y0)])), (98, (.var [.cell (.olst (.int .i64) y1)]))]
noncomputable def f45_k (x1 : List Int) (x2 : Int) (x3 : Option (List Int)) : (Int × (Option (List Int))) → List (Nat × Blk) := fun (y0, y1) => [(97, (.var [.cell (.int .i64 y0)])), (98, (.var [.cell (.olst (.int .i64) y1)]))]
noncomputable def f45_A (x1 : List Int) (x2 : Int) (x3 : Option (List Int)) : List G := [(.r (.at (.lst (.int .i64) x1 false))), (.r (.at (.ptr 97 0 0))), (.r (.at (.ptr 98 0 0)))]
noncomputable def f45_K (x1 : List Int) (x2 : Int) (x3 : Option (List Int)) : List (Nat × Blk) := [(97, (.var [.cell (.int .i64 x2)])), (98, (.var [.cell (.olst (.int .i64) x3)]))]
def f45_C (x1 : List Int) (x2 : Int) (x3 : Option (List Int)) (r : Int × (Option (List Int))) : Prop := CallOK cx 45 (f45_A x1 x2 x3) (f45_K x1 x2 x3) [] (f45_v r) (f45_k x1 x2 x3 r)

def f38_1_M : List Nat := [100]
noncomputable def f38_1_p1_H (x1 : Nat) (x2 : Nat) (x3 : Int) (x4 : Bool) (x5 : Int) (x6 : Option (List Int)) (x7 : List Int) (x8 : Int) : GS := ⟨[(0, (.r (.at (.sl 99 x1 x2)))), (1, (.r (.at (.int .i64 x3)))), (2, (.r (.at (.bool x4)))), (3, (.r (.at (.app2 (.app2 (.fn 45) (.ptr 97 0 0)) (.ptr 98 0 0))))), (8, (.r (.at (.int .i64 x8))))], [(97, (.var [.cell (.int .i64 x5)])), (98, (.var [.cell (.olst (.int .i64) x6)])), (99, (.gr (.int .i64) 3 x7 true))]⟩
noncomputable def f38_1_p1_x : Int → GExit := fun y0 => (.exit 0)
noncomputable def f38_1_p1_s (x1 : Nat) (x2 : Nat) (x3 : Int) (x4 : Bool) (x5 : Int) (x6 : Option (List Int)) (x7 : List Int) : Int → GS := fun y0 => ⟨[(0, (.r (.at (.sl 99 x1 x2)))), (1, (.r (.at (.int .i64 x3)))), (2, (.r (.at (.bool x4)))), (3, (.r (.at (.app2 (.app2 (.fn 45) (.ptr 97 0 0)) (.ptr 98 0 0))))), (8, (.r (.at (.int .i64 y0))))], [(97, (.var [.cell (.int .i64 x5)])), (98, (.var [.cell (.olst (.int .i64) x6)])), (99, (.gr (.int .i64) 3 x7 true))]⟩
def f38_1_p1_P (x1 : Nat) (x2 : Nat) (x3 : Int) (x4 : Bool) (x5 : Int) (x6 : Option (List Int)) (x7 : List Int) (x8 : Int) (r : Int) : Prop := Lp cx f38_1_M 74 (part Try.f38 1) (f38_1_p1_H x1 x2 x3 x4 x5 x6 x7 x8) (f38_1_p1_x r) (f38_1_p1_s x1 x2 x3 x4 x5 x6 x7 r)
noncomputable def f38_1_p9_1_H (x1 : Nat) (x2 : Nat) (x3 : Int) (x4 : Bool) (x10 : Int) (x27 : Int) (x31 : Int) (x33 : Int) (x28 : Int) (x29 : Option (List Int)) (x26 : List Int) : GS := ⟨[(0, (.r (.at (.sl 99 x1 x2)))), (1, (.r (.at (.int .i64 x3)))), (2, (.r (.at (.bool x4)))), (3, (.r (.at (.app2 (.app2 (.fn 45) (.ptr 97 0 0)) (.ptr 98 0 0))))), (8, (.r (.at (.int .i64 x10)))), (9, (.r (.at (.int .i64 x27)))), (10, (.r (.at (.int .i64 (w64 (x27 + x31)))))), (54, (.r (.at (.bool (x33 == 0)))))], [(97, (.var [.cell (.int .i64 x28)])), (98, (.var [.cell (.olst (.int .i64) x29)])), (99, (.gr (.int .i64) 3 x26 true))]⟩
noncomputable def f38_1_p9_1_x : (Int × (Option (List Int)) × (List Int)) → GExit := fun (y0, y1, y2) => .normal
noncomputable def f38_1_p9_1_s (x1 : Nat) (x2 : Nat) (x3 : Int) (x4 : Bool) (x10 : Int) (x27 : Int) (x31 : Int) (x33 : Int) (x28 : Int) (x29 : Option (List Int)) (x26 : List Int) : (Int × (Option (List Int)) × (List Int)) → GS := fun (y0, y1, y2) => ⟨[(0, (.r (.at (.sl 99 x1 x2)))), (1, (.r (.at (.int .i64 x3)))), (2, (.r (.at (.bool x4)))), (3, (.r (.at (.app2 (.app2 (.fn 45) (.ptr 97 0 0)) (.ptr 98 0 0))))), (8, (.r (.at (.int .i64 x10)))), (9, (.r (.at (.int .i64 x27))))], [(97, (.var [.cell (.int .i64 y0)])), (98, (.var [.cell (.olst (.int .i64) y1)])), (99, (.gr (.int .i64) 3 y2 true))]⟩
def f38_1_p9_1_P (x1 : Nat) (x2 : Nat) (x3 : Int) (x4 : Bool) (x10 : Int) (x27 : Int) (x31 : Int) (x33 : Int) (x28 : Int) (x29 : Option (List Int)) (x26 : List Int) (r : Int × (Option (List Int)) × (List Int)) : Prop := Ex cx f38_1_M 74 (part Try.f38 9) (f38_1_p9_1_H x1 x2 x3 x4 x10 x27 x31 x33 x28 x29 x26) (f38_1_p9_1_x r) (f38_1_p9_1_s x1 x2 x3 x4 x10 x27 x31 x33 x28 x29 x26 r)
noncomputable def f38_1_p6_H (x1 : Nat) (x2 : Nat) (x3 : Int) (x4 : Bool) (x10 : Int) (x27 : Int) (x28 : Int) (x29 : Option (List Int)) (x26 : List Int) : GS := ⟨[(0, (.r (.at (.sl 99 x1 x2)))), (1, (.r (.at (.int .i64 x3)))), (2, (.r (.at (.bool x4)))), (3, (.r (.at (.app2 (.app2 (.fn 45) (.ptr 97 0 0)) (.ptr 98 0 0))))), (8, (.r (.at (.int .i64 x10)))), (9, (.r (.at (.int .i64 x27))))], [(97, (.var [.cell (.int .i64 x28)])), (98, (.var [.cell (.olst (.int .i64) x29)])), (99, (.gr (.int .i64) 3 x26 true))]⟩
noncomputable def f38_1_p6_x : (Int × (Option (List Int)) × (List Int)) → GExit := fun (y0, y1, y2) => (.exit 2)
noncomputable def f38_1_p6_s (x1 : Nat) (x2 : Nat) (x3 : Int) (x4 : Bool) (x10 : Int) : (Int × (Option (List Int)) × (List Int)) → GS := fun (y0, y1, y2) => ⟨[], [(97, (.var [.cell (.int .i64 y0)])), (98, (.var [.cell (.olst (.int .i64) y1)])), (99, (.gr (.int .i64) 3 y2 true))]⟩
def f38_1_p6_P (x1 : Nat) (x2 : Nat) (x3 : Int) (x4 : Bool) (x10 : Int) (x27 : Int) (x28 : Int) (x29 : Option (List Int)) (x26 : List Int) (r : Int × (Option (List Int)) × (List Int)) : Prop := Lp cx f38_1_M 74 (part Try.f38 6) (f38_1_p6_H x1 x2 x3 x4 x10 x27 x28 x29 x26) (f38_1_p6_x r) (f38_1_p6_s x1 x2 x3 x4 x10 r)
noncomputable def f38_1_v : (Int × (Option (List Int)) × (List Int)) → G := fun (y0, y1, y2) => (.r (.at .unit0))
noncomputable def f38_1_k0 : (Int × (Option (List Int)) × (List Int)) → List (Nat × Blk) := fun (y0, y1, y2) => [(97, (.var [.cell (.int .i64 y0)])), (98, (.var [.cell (.olst (.int .i64) y1)])), (99, (.gr (.int .i64) 3 y2 true))]
noncomputable def f38_1_k (x1 : Nat) (x2 : Nat) (x3 : Int) (x4 : Bool) (x5 : Int) (x6 : Option (List Int)) (x7 : List Int) : (Int × (Option (List Int)) × (List Int)) → List (Nat × Blk) := fun (y0, y1, y2) => [(97, (.var [.cell (.int .i64 y0)])), (98, (.var [.cell (.olst (.int .i64) y1)])), (99, (.gr (.int .i64) 3 y2 true))]
noncomputable def f38_1_A (x1 : Nat) (x2 : Nat) (x3 : Int) (x4 : Bool) (x5 : Int) (x6 : Option (List Int)) (x7 : List Int) : List G := [(.r (.at (.sl 99 x1 x2))), (.r (.at (.int .i64 x3))), (.r (.at (.bool x4))), (.r (.at (.app2 (.app2 (.fn 45) (.ptr 97 0 0)) (.ptr 98 0 0))))]
noncomputable def f38_1_K (x1 : Nat) (x2 : Nat) (x3 : Int) (x4 : Bool) (x5 : Int) (x6 : Option (List Int)) (x7 : List Int) : List (Nat × Blk) := [(97, (.var [.cell (.int .i64 x5)])), (98, (.var [.cell (.olst (.int .i64) x6)])), (99, (.gr (.int .i64) 3 x7 true))]
def f38_1_C (x1 : Nat) (x2 : Nat) (x3 : Int) (x4 : Bool) (x5 : Int) (x6 : Option (List Int)) (x7 : List Int) (r : Int × (Option (List Int)) × (List Int)) : Prop := CallOK cx 38 (f38_1_A x1 x2 x3 x4 x5 x6 x7) (f38_1_K x1 x2 x3 x4 x5 x6 x7) [] (f38_1_v r) (f38_1_k x1 x2 x3 x4 x5 x6 x7 r)

def f7_M : List Nat := [91, 96, 97, 98, 99, 101, 102, 103]
noncomputable def f7_p1_H (x14 : Int) (x5 : Int) (x6 : Int) (x24 : Int) (x7 : Bool) (x8 : List Int) (x21 : Int) (x22 : Bool) (x23 : List Int) : GS := ⟨[(5, (.r (.at (.ptr 96 0 0)))), (8, (.r (.at (.int .i64 x14)))), (12, (.r (.at (.int .i64 (w64 (1 + (Int.tmod (w64 (x5)) x6))))))), (13, (.r (.at (.ptr 102 0 0)))), (14, (.r (.at (.int .i64 x24)))), (87, (.r (.at (.bool (x24 == 12)))))], [(96, (.var [.cell (.int .i64 x6), .cell (.bool x7), .cell (.lst (.int .i64) x8 false)])), (102, (.var [.cell (.int .i64 x21), .cell (.bool x22), .cell (.lst (.int .i64) x23 false)]))]⟩
noncomputable def f7_p1_x : f7_p1_R → GExit := fun
  | .c0 => .ret
  | .c1 y0 y1 y2 => .normal
noncomputable def f7_p1_s (x14 : Int) (x5 : Int) (x6 : Int) (x24 : Int) (x7 : Bool) (x8 : List Int) (x21 : Int) (x22 : Bool) (x23 : List Int) : f7_p1_R → GS := fun
  | .c0 => ⟨[(4, (.r (.at (.bool false))))], []⟩
  | .c1 y0 y1 y2 => ⟨[(5, (.r (.at (.ptr 96 0 0)))), (8, (.r (.at (.int .i64 x14)))), (12, (.r (.at (.int .i64 (w64 (1 + (Int.tmod (w64 (x5)) x6))))))), (13, (.r (.at (.ptr 102 0 0))))], [(96, (.var [.cell (.int .i64 x6), .cell (.bool x7), .cell (.lst (.int .i64) x8 false)])), (102, (.var [.cell (.int .i64 y0), .cell (.bool y1), .cell (.lst (.int .i64) y2 false)]))]⟩
def f7_p1_P (x14 : Int) (x5 : Int) (x6 : Int) (x24 : Int) (x7 : Bool) (x8 : List Int) (x21 : Int) (x22 : Bool) (x23 : List Int) (r : f7_p1_R) : Prop := Ex cx f7_M 173 (part Try.f7 1) (f7_p1_H x14 x5 x6 x24 x7 x8 x21 x22 x23) (f7_p1_x r) (f7_p1_s x14 x5 x6 x24 x7 x8 x21 x22 x23 r)
noncomputable def f7_p6_H (x5 : Int) (x6 : Int) (x29 : Int) (x31 : List Int) (x26 : Int) (x27 : Bool) (x28 : List Int) (x33 : Int) (x34 : Int) : GS := ⟨[(12, (.r (.at (.int .i64 (w64 (1 + (Int.tmod (w64 (x5)) x6))))))), (13, (.r (.at (.ptr 102 0 0)))), (15, (.r (.at (.int .i64 x29)))), (16, (.r (.at (.lst (.int .i64) x31 false)))), (17, (.r (.at (.int .i64 x33)))), (125, (.r (.at (.lst (.int .i64) x31 false)))), (126, (.r (.at (.int .i64 ((List.length x31 : Nat) : Int))))), (127, (.r (.at (.int .i64 x34))))], [(102, (.var [.cell (.int .i64 x26), .cell (.bool x27), .cell (.lst (.int .i64) x28 false)]))]⟩
noncomputable def f7_p6_x : f7_p6_R → GExit := fun
  | .c0 => .ret
  | .c1 y0 => (.exit 0)
noncomputable def f7_p6_s (x5 : Int) (x6 : Int) (x29 : Int) (x31 : List Int) (x26 : Int) (x27 : Bool) (x28 : List Int) : f7_p6_R → GS := fun
  | .c0 => ⟨[(4, (.r (.at (.bool false))))], []⟩
  | .c1 y0 => ⟨[(15, (.r (.at (.int .i64 x29)))), (17, (.r (.at (.int .i64 y0))))], []⟩
def f7_p6_P (x5 : Int) (x6 : Int) (x29 : Int) (x31 : List Int) (x26 : Int) (x27 : Bool) (x28 : List Int) (x33 : Int) (x34 : Int) (r : f7_p6_R) : Prop := Lp cx f7_M 173 (part Try.f7 6) (f7_p6_H x5 x6 x29 x31 x26 x27 x28 x33 x34) (f7_p6_x r) (f7_p6_s x5 x6 x29 x31 x26 x27 x28 r)
noncomputable def f7_p1_1_H (x14 : Int) (x5 : Int) (x6 : Int) (x49 : Int) (x7 : Bool) (x8 : List Int) (x46 : Int) (x47 : Bool) (x48 : List Int) : GS := ⟨[(5, (.r (.at (.ptr 96 0 0)))), (8, (.r (.at (.int .i64 x14)))), (12, (.r (.at (.int .i64 (w64 (1 + (Int.tmod (w64 (x5)) x6))))))), (13, (.r (.at (.ptr 102 0 0)))), (14, (.r (.at (.int .i64 x49)))), (87, (.r (.at (.bool (x49 == 12)))))], [(96, (.var [.cell (.int .i64 x6), .cell (.bool x7), .cell (.lst (.int .i64) x8 false)])), (102, (.var [.cell (.int .i64 x46), .cell (.bool x47), .cell (.lst (.int .i64) x48 false)]))]⟩
noncomputable def f7_p1_1_x : f7_p1_1_R → GExit := fun
  | .c0 => .ret
  | .c1 y0 y1 y2 => .normal
noncomputable def f7_p1_1_s (x14 : Int) (x5 : Int) (x6 : Int) (x49 : Int) (x7 : Bool) (x8 : List Int) (x46 : Int) (x47 : Bool) (x48 : List Int) : f7_p1_1_R → GS := fun
  | .c0 => ⟨[(4, (.r (.at (.bool false))))], []⟩
  | .c1 y0 y1 y2 => ⟨[(5, (.r (.at (.ptr 96 0 0)))), (8, (.r (.at (.int .i64 x14)))), (12, (.r (.at (.int .i64 (w64 (1 + (Int.tmod (w64 (x5)) x6))))))), (13, (.r (.at (.ptr 102 0 0))))], [(96, (.var [.cell (.int .i64 x6), .cell (.bool x7), .cell (.lst (.int .i64) x8 false)])), (102, (.var [.cell (.int .i64 y0), .cell (.bool y1), .cell (.lst (.int .i64) y2 false)]))]⟩
def f7_p1_1_P (x14 : Int) (x5 : Int) (x6 : Int) (x49 : Int) (x7 : Bool) (x8 : List Int) (x46 : Int) (x47 : Bool) (x48 : List Int) (r : f7_p1_1_R) : Prop := Ex cx f7_M 173 (part Try.f7 1) (f7_p1_1_H x14 x5 x6 x49 x7 x8 x46 x47 x48) (f7_p1_1_x r) (f7_p1_1_s x14 x5 x6 x49 x7 x8 x46 x47 x48 r)
noncomputable def f7_p6_1_H (x5 : Int) (x6 : Int) (x54 : Int) (x56 : List Int) (x51 : Int) (x52 : Bool) (x53 : List Int) (x58 : Int) (x59 : Int) : GS := ⟨[(12, (.r (.at (.int .i64 (w64 (1 + (Int.tmod (w64 (x5)) x6))))))), (13, (.r (.at (.ptr 102 0 0)))), (15, (.r (.at (.int .i64 x54)))), (16, (.r (.at (.lst (.int .i64) x56 false)))), (17, (.r (.at (.int .i64 x58)))), (125, (.r (.at (.lst (.int .i64) x56 false)))), (126, (.r (.at (.int .i64 ((List.length x56 : Nat) : Int))))), (127, (.r (.at (.int .i64 x59))))], [(102, (.var [.cell (.int .i64 x51), .cell (.bool x52), .cell (.lst (.int .i64) x53 false)]))]⟩
noncomputable def f7_p6_1_x : f7_p6_1_R → GExit := fun
  | .c0 => .ret
  | .c1 y0 => (.exit 0)
noncomputable def f7_p6_1_s (x5 : Int) (x6 : Int) (x54 : Int) (x56 : List Int) (x51 : Int) (x52 : Bool) (x53 : List Int) : f7_p6_1_R → GS := fun
  | .c0 => ⟨[(4, (.r (.at (.bool false))))], []⟩
  | .c1 y0 => ⟨[(15, (.r (.at (.int .i64 x54)))), (17, (.r (.at (.int .i64 y0))))], []⟩
def f7_p6_1_P (x5 : Int) (x6 : Int) (x54 : Int) (x56 : List Int) (x51 : Int) (x52 : Bool) (x53 : List Int) (x58 : Int) (x59 : Int) (r : f7_p6_1_R) : Prop := Lp cx f7_M 173 (part Try.f7 6) (f7_p6_1_H x5 x6 x54 x56 x51 x52 x53 x58 x59) (f7_p6_1_x r) (f7_p6_1_s x5 x6 x54 x56 x51 x52 x53 r)
noncomputable def f7_v : Bool → G := fun y0 => (.r (.at (.bool y0)))
noncomputable def f7_k0 : Bool → List (Nat × Blk) := fun y0 => []
noncomputable def f7_k (x1 : Int) (x2 : Bool) (x3 : List Int) (x4 : Int) (x5 : Int) : Bool → List (Nat × Blk) := fun y0 => []
noncomputable def f7_A (x1 : Int) (x2 : Bool) (x3 : List Int) (x4 : Int) (x5 : Int) : List G := [(.r (.agg [.cell (.int .u8 x1), .cell (.bool x2), .arr (.int .u8) 8 x3, .cell (.int .u8 x4)])), (.r (.at (.int .u8 x5)))]
noncomputable def f7_K (x1 : Int) (x2 : Bool) (x3 : List Int) (x4 : Int) (x5 : Int) : List (Nat × Blk) := []
def f7_C (x1 : Int) (x2 : Bool) (x3 : List Int) (x4 : Int) (x5 : Int) (r : Bool) : Prop := CallOK cx 7 (f7_A x1 x2 x3 x4 x5) (f7_K x1 x2 x3 x4 x5) [] (f7_v r) (f7_k x1 x2 x3 x4 x5 r)

end Go.Gh.Fan
