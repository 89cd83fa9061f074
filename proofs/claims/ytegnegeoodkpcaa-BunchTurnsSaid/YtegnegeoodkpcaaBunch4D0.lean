/- Bunch4D0: printed by wip/tool/gx.py -/
import Derived.Test.YtegnegeoodkpcaaBunchA
import Derived.Test.YtegnegeoodkpcaaGiC
import Derived.Test.YtegnegeoodkpcaaBunch4N0
namespace Go.Gh.Bunch
set_option linter.unusedVariables false
set_option linter.unusedSimpArgs false
open Go.Proofs

def f24_M : List Nat := []
noncomputable def f24_v : Bool → G := fun y0 => (.r (.at (.bool y0)))
noncomputable def f24_k0 : Bool → List (Nat × Blk) := fun y0 => []
noncomputable def f24_k (x1 : List Int) : Bool → List (Nat × Blk) := fun y0 => []
noncomputable def f24_A (x1 : List Int) : List G := [(.r (.at (.lst (.int .i64) x1 false)))]
noncomputable def f24_K (x1 : List Int) : List (Nat × Blk) := []
def f24_C (x1 : List Int) (r : Bool) : Prop := CallOK cx 24 (f24_A x1) (f24_K x1) [] (f24_v r) (f24_k x1 r)

def f52_M : List Nat := []
noncomputable def f52_v : (List Int) → G := fun y0 => (.r (.at (.lst (.int .i64) y0 false)))
noncomputable def f52_k0 : (List Int) → List (Nat × Blk) := fun y0 => []
noncomputable def f52_k (x1 : List Int) : (List Int) → List (Nat × Blk) := fun y0 => []
noncomputable def f52_A (x1 : List Int) : List G := [(.r (.at (.lst (.int .i64) x1 false)))]
noncomputable def f52_K (x1 : List Int) : List (Nat × Blk) := []
def f52_C (x1 : List Int) (r : (List Int)) : Prop := CallOK cx 52 (f52_A x1) (f52_K x1) [] (f52_v r) (f52_k x1 r)

def f57_M : List Nat := []
noncomputable def f57_v : Bool → G := fun y0 => (.r (.at (.bool y0)))
noncomputable def f57_k0 : Bool → List (Nat × Blk) := fun y0 => []
noncomputable def f57_k (x1 : Int) (x2 : Int) (x3 : Int) : Bool → List (Nat × Blk) := fun y0 => []
noncomputable def f57_A (x1 : Int) (x2 : Int) (x3 : Int) : List G := [(.r (.at (.int .i64 x1))), (.r (.at (.int .i64 x2))), (.r (.at (.int .i64 x3)))]
noncomputable def f57_K (x1 : Int) (x2 : Int) (x3 : Int) : List (Nat × Blk) := []
def f57_C (x1 : Int) (x2 : Int) (x3 : Int) (r : Bool) : Prop := CallOK cx 57 (f57_A x1 x2 x3) (f57_K x1 x2 x3) [] (f57_v r) (f57_k x1 x2 x3 r)

def f34_M : List Nat := []
noncomputable def f34_p1_H (x1 : List Int) (x2 : Int) (x3 : Int) (x4 : Int) : GS := ⟨[(3, (.r (.at (.int .i64 x2)))), (4, (.r (.at (.int .i64 x3)))), (7, (.r (.at (.lst (.int .i64) x1 false)))), (8, (.r (.at (.int .i64 ((List.length x1 : Nat) : Int))))), (9, (.r (.at (.int .i64 x4))))], []⟩
noncomputable def f34_p1_x : f34_p1_R → GExit := fun
  | .c0 y0 => .ret
  | .c1 y0 => (.exit 0)
noncomputable def f34_p1_s (x1 : List Int) : f34_p1_R → GS := fun
  | .c0 y0 => ⟨[(2, (.r (.at (.int .i64 y0))))], []⟩
  | .c1 y0 => ⟨[(4, (.r (.at (.int .i64 y0))))], []⟩
def f34_p1_P (x1 : List Int) (x2 : Int) (x3 : Int) (x4 : Int) (r : f34_p1_R) : Prop := Lp cx f34_M 29 (part Try.f34 1) (f34_p1_H x1 x2 x3 x4) (f34_p1_x r) (f34_p1_s x1 r)
noncomputable def f34_v : Int → G := fun y0 => (.r (.at (.int .i64 y0)))
noncomputable def f34_k0 : Int → List (Nat × Blk) := fun y0 => []
noncomputable def f34_k (x1 : List Int) : Int → List (Nat × Blk) := fun y0 => []
noncomputable def f34_A (x1 : List Int) : List G := [(.r (.at (.lst (.int .i64) x1 false)))]
noncomputable def f34_K (x1 : List Int) : List (Nat × Blk) := []
def f34_C (x1 : List Int) (r : Int) : Prop := CallOK cx 34 (f34_A x1) (f34_K x1) [] (f34_v r) (f34_k x1 r)

def f61_M : List Nat := [1]
noncomputable def f61_p4_1_H (x1 : List Int) (x12 : List Int) (x13 : Int) : GS := ⟨[(0, (.r (.at (.lst (.int .i64) x1 false)))), (3, (.r (.at (.sl 1 0 (List.length x12))))), (4, (.r (.at (.int .i64 x13)))), (5, (.r (.at (.int .i64 0)))), (16, (.r (.at (.bool (decide (x13 < ((List.length x1 : Nat) : Int)))))))], [(1, (.gr (.int .i64) 3 x12 true))]⟩
noncomputable def f61_p4_1_x : Int → GExit := fun y0 => .normal
noncomputable def f61_p4_1_s (x1 : List Int) (x12 : List Int) (x13 : Int) : Int → GS := fun y0 => ⟨[(0, (.r (.at (.lst (.int .i64) x1 false)))), (3, (.r (.at (.sl 1 0 (List.length x12))))), (4, (.r (.at (.int .i64 x13)))), (5, (.r (.at (.int .i64 y0))))], [(1, (.gr (.int .i64) 3 x12 true))]⟩
def f61_p4_1_P (x1 : List Int) (x12 : List Int) (x13 : Int) (r : Int) : Prop := Ex cx f61_M 36 (part Try.f61 4) (f61_p4_1_H x1 x12 x13) (f61_p4_1_x r) (f61_p4_1_s x1 x12 x13 r)
noncomputable def f61_p6_1_H (x1 : List Int) (x13 : Int) (x16 : Int) (x15 : Int) (x18 : Int) (x17 : List Int) : GS := ⟨[(0, (.r (.at (.lst (.int .i64) x1 false)))), (3, (.r (.at (.sl 1 0 (List.length x17))))), (4, (.r (.at (.int .i64 x13)))), (27, (.r (.at (.int .i64 (w64 (x16 - x15)))))), (28, (.r (.at (.int .i64 x18))))], [(1, (.gr (.int .i64) 3 x17 true))]⟩
noncomputable def f61_p6_1_x : (List Int) → GExit := fun y0 => (.exit 2)
noncomputable def f61_p6_1_s (x1 : List Int) (x13 : Int) (x16 : Int) (x15 : Int) : (List Int) → GS := fun y0 => ⟨[(0, (.r (.at (.lst (.int .i64) x1 false)))), (3, (.r (.at (.sl 1 0 (List.length y0))))), (4, (.r (.at (.int .i64 x13))))], [(1, (.gr (.int .i64) 3 y0 true))]⟩
def f61_p6_1_P (x1 : List Int) (x13 : Int) (x16 : Int) (x15 : Int) (x18 : Int) (x17 : List Int) (r : (List Int)) : Prop := Lp cx f61_M 36 (part Try.f61 6) (f61_p6_1_H x1 x13 x16 x15 x18 x17) (f61_p6_1_x r) (f61_p6_1_s x1 x13 x16 x15 r)
noncomputable def f61_p1_H (x1 : List Int) (x13 : Int) (x12 : List Int) : GS := ⟨[(0, (.r (.at (.lst (.int .i64) x1 false)))), (3, (.r (.at (.sl 1 0 (List.length x12))))), (4, (.r (.at (.int .i64 x13))))], [(1, (.gr (.int .i64) 3 x12 true))]⟩
noncomputable def f61_p1_x : (List Int) → GExit := fun y0 => (.exit 0)
noncomputable def f61_p1_s (x1 : List Int) : (List Int) → GS := fun y0 => ⟨[(3, (.r (.at (.sl 1 0 (List.length y0)))))], [(1, (.gr (.int .i64) 3 y0 true))]⟩
def f61_p1_P (x1 : List Int) (x13 : Int) (x12 : List Int) (r : (List Int)) : Prop := Lp cx f61_M 36 (part Try.f61 1) (f61_p1_H x1 x13 x12) (f61_p1_x r) (f61_p1_s x1 r)
noncomputable def f61_v : (List Int) → G := fun y0 => (.r (.at (.lst (.int .i64) y0 false)))
noncomputable def f61_k0 : (List Int) → List (Nat × Blk) := fun y0 => []
noncomputable def f61_k (x1 : List Int) : (List Int) → List (Nat × Blk) := fun y0 => []
noncomputable def f61_A (x1 : List Int) : List G := [(.r (.at (.lst (.int .i64) x1 false)))]
noncomputable def f61_K (x1 : List Int) : List (Nat × Blk) := []
def f61_C (x1 : List Int) (r : (List Int)) : Prop := CallOK cx 61 (f61_A x1) (f61_K x1) [] (f61_v r) (f61_k x1 r)

def f25_M : List Nat := []
noncomputable def f25_v : ((List Int) × Int) → G := fun (y0, y1) => (.tup [(.at (.lst (.int .i64) y0 false)), (.at (.int .i64 y1))])
noncomputable def f25_k0 : ((List Int) × Int) → List (Nat × Blk) := fun (y0, y1) => []
noncomputable def f25_k (x1 : List Int) : ((List Int) × Int) → List (Nat × Blk) := fun (y0, y1) => []
noncomputable def f25_A (x1 : List Int) : List G := [(.r (.at (.lst (.int .i64) x1 false)))]
noncomputable def f25_K (x1 : List Int) : List (Nat × Blk) := []
def f25_C (x1 : List Int) (r : (List Int) × Int) : Prop := CallOK cx 25 (f25_A x1) (f25_K x1) [] (f25_v r) (f25_k x1 r)

def f84_M : List Nat := []
def f83_M : List Nat := [7]
def f58_M : List Nat := [3, 4, 5]
noncomputable def f84_v : (Int × (List (Option Int))) → G := fun (y0, y1) => (.r (.at (.int .i64 y0)))
noncomputable def f84_k0 : (Int × (List (Option Int))) → List (Nat × Blk) := fun (y0, y1) => [(2, (.var [.arr (.opt (.int .i64)) 961 y1]))]
noncomputable def f84_k (x1 : List (Option Int)) (x2 : Int) (x3 : Int) : (Int × (List (Option Int))) → List (Nat × Blk) := fun (y0, y1) => [(2, (.var [.arr (.opt (.int .i64)) 961 y1])), (3, (.var [.cell (.ptr 2 0 0)])), (4, (.var [.cell (.int .i64 x2)])), (5, (.var [.cell (.int .i64 x3)]))]
noncomputable def f84_A (x1 : List (Option Int)) (x2 : Int) (x3 : Int) : List G := [(.r (.at (.ptr 3 0 0))), (.r (.at (.ptr 4 0 0))), (.r (.at (.ptr 5 0 0)))]
noncomputable def f84_K (x1 : List (Option Int)) (x2 : Int) (x3 : Int) : List (Nat × Blk) := [(2, (.var [.arr (.opt (.int .i64)) 961 x1])), (3, (.var [.cell (.ptr 2 0 0)])), (4, (.var [.cell (.int .i64 x2)])), (5, (.var [.cell (.int .i64 x3)]))]
def f84_C (x1 : List (Option Int)) (x2 : Int) (x3 : Int) (r : Int × (List (Option Int))) : Prop := CallOK cx 84 (f84_A x1 x2 x3) (f84_K x1 x2 x3) [] (f84_v r) (f84_k x1 x2 x3 r)
noncomputable def f83_v : (Int × (List (Option Int))) → G := fun (y0, y1) => (.r (.at (.int .i64 y0)))
noncomputable def f83_k0 : (Int × (List (Option Int))) → List (Nat × Blk) := fun (y0, y1) => [(2, (.var [.arr (.opt (.int .i64)) 961 y1]))]
noncomputable def f83_k (x1 : Int) (x2 : Int) (x3 : List (Option Int)) (x4 : Int) (x5 : Int) : (Int × (List (Option Int))) → List (Nat × Blk) := fun (y0, y1) => [(2, (.var [.arr (.opt (.int .i64)) 961 y1])), (3, (.var [.cell (.ptr 2 0 0)])), (4, (.var [.cell (.int .i64 x4)])), (5, (.var [.cell (.int .i64 x5)]))]
noncomputable def f83_A (x1 : Int) (x2 : Int) (x3 : List (Option Int)) (x4 : Int) (x5 : Int) : List G := [(.r (.at (.ptr 2 0 0))), (.r (.at (.int .i64 x1))), (.r (.at (.int .i64 x2))), (.r (.at (.app2 (.app2 (.app2 (.fn 84) (.ptr 3 0 0)) (.ptr 4 0 0)) (.ptr 5 0 0))))]
noncomputable def f83_K (x1 : Int) (x2 : Int) (x3 : List (Option Int)) (x4 : Int) (x5 : Int) : List (Nat × Blk) := [(2, (.var [.arr (.opt (.int .i64)) 961 x3])), (3, (.var [.cell (.ptr 2 0 0)])), (4, (.var [.cell (.int .i64 x4)])), (5, (.var [.cell (.int .i64 x5)]))]
def f83_C (x1 : Int) (x2 : Int) (x3 : List (Option Int)) (x4 : Int) (x5 : Int) (r : Int × (List (Option Int))) : Prop := CallOK cx 83 (f83_A x1 x2 x3 x4 x5) (f83_K x1 x2 x3 x4 x5) [] (f83_v r) (f83_k x1 x2 x3 x4 x5 r)
noncomputable def f58_v : (Int × (List (Option Int))) → G := fun (y0, y1) => (.r (.at (.int .i64 y0)))
noncomputable def f58_k0 : (Int × (List (Option Int))) → List (Nat × Blk) := fun (y0, y1) => [(2, (.var [.arr (.opt (.int .i64)) 961 y1]))]
noncomputable def f58_k (x1 : Int) (x2 : Int) (x3 : List (Option Int)) : (Int × (List (Option Int))) → List (Nat × Blk) := fun (y0, y1) => [(2, (.var [.arr (.opt (.int .i64)) 961 y1]))]
noncomputable def f58_A (x1 : Int) (x2 : Int) (x3 : List (Option Int)) : List G := [(.r (.at (.ptr 2 0 0))), (.r (.at (.int .i64 x1))), (.r (.at (.int .i64 x2)))]
noncomputable def f58_K (x1 : Int) (x2 : Int) (x3 : List (Option Int)) : List (Nat × Blk) := [(2, (.var [.arr (.opt (.int .i64)) 961 x3]))]
def f58_C (x1 : Int) (x2 : Int) (x3 : List (Option Int)) (r : Int × (List (Option Int))) : Prop := CallOK cx 58 (f58_A x1 x2 x3) (f58_K x1 x2 x3) [] (f58_v r) (f58_k x1 x2 x3 r)

def f17_M : List Nat := [2]
noncomputable def f17_v : (Int × Int) → G := fun (y0, y1) => (.tup [(.at (.int .i64 y0)), (.at (.int .i64 y1))])
noncomputable def f17_k0 : (Int × Int) → List (Nat × Blk) := fun (y0, y1) => []
noncomputable def f17_k (x1 : Int) (x2 : Int) : (Int × Int) → List (Nat × Blk) := fun (y0, y1) => []
noncomputable def f17_A (x1 : Int) (x2 : Int) : List G := [(.r (.at (.int .i64 x1))), (.r (.at (.int .i64 x2)))]
noncomputable def f17_K (x1 : Int) (x2 : Int) : List (Nat × Blk) := []
def f17_C (x1 : Int) (x2 : Int) (r : Int × Int) : Prop := CallOK cx 17 (f17_A x1 x2) (f17_K x1 x2) [] (f17_v r) (f17_k x1 x2 r)

def f15_M : List Nat := []
noncomputable def f15_v : (Int × Int) → G := fun (y0, y1) => (.tup [(.at (.int .i64 y0)), (.at (.int .i64 y1))])
noncomputable def f15_k0 : (Int × Int) → List (Nat × Blk) := fun (y0, y1) => []
noncomputable def f15_k (x1 : Int) : (Int × Int) → List (Nat × Blk) := fun (y0, y1) => []
noncomputable def f15_A (x1 : Int) : List G := [(.r (.at (.int .i64 x1)))]
noncomputable def f15_K (x1 : Int) : List (Nat × Blk) := []
def f15_C (x1 : Int) (r : Int × Int) : Prop := CallOK cx 15 (f15_A x1) (f15_K x1) [] (f15_v r) (f15_k x1 r)

def f20_M : List Nat := [8]
noncomputable def f20_p6_1_H (x1 : Int) (x13 : Int) (x18 : Int) (x17 : List Int) : GS := ⟨[(0, (.r (.at (.int .i64 x1)))), (4, (.r (.at (.sl 8 0 (Int.toNat (w64 (x1 + 1))))))), (5, (.r (.at (.int .i64 x13)))), (6, (.r (.at (.int .i64 x18))))], [(8, (.gr (.int .i64) 3 x17 true))]⟩
noncomputable def f20_p6_1_x : (List Int) → GExit := fun y0 => (.exit 2)
noncomputable def f20_p6_1_s (x1 : Int) (x13 : Int) : (List Int) → GS := fun y0 => ⟨[(0, (.r (.at (.int .i64 x1)))), (4, (.r (.at (.sl 8 0 (Int.toNat (w64 (x1 + 1))))))), (5, (.r (.at (.int .i64 x13))))], [(8, (.gr (.int .i64) 3 y0 true))]⟩
def f20_p6_1_P (x1 : Int) (x13 : Int) (x18 : Int) (x17 : List Int) (r : (List Int)) : Prop := Lp cx f20_M 42 (part Try.f20 6) (f20_p6_1_H x1 x13 x18 x17) (f20_p6_1_x r) (f20_p6_1_s x1 x13 r)
noncomputable def f20_p2_H (x1 : Int) (x13 : Int) (x12 : List Int) : GS := ⟨[(0, (.r (.at (.int .i64 x1)))), (4, (.r (.at (.sl 8 0 (Int.toNat (w64 (x1 + 1))))))), (5, (.r (.at (.int .i64 x13))))], [(8, (.gr (.int .i64) 3 x12 true))]⟩
noncomputable def f20_p2_x : (List Int) → GExit := fun y0 => (.exit 0)
noncomputable def f20_p2_s (x1 : Int) : (List Int) → GS := fun y0 => ⟨[(0, (.r (.at (.int .i64 x1)))), (4, (.r (.at (.sl 8 0 (Int.toNat (w64 (x1 + 1)))))))], [(8, (.gr (.int .i64) 3 y0 true))]⟩
def f20_p2_P (x1 : Int) (x13 : Int) (x12 : List Int) (r : (List Int)) : Prop := Lp cx f20_M 42 (part Try.f20 2) (f20_p2_H x1 x13 x12) (f20_p2_x r) (f20_p2_s x1 r)
noncomputable def f20_v : (Int × Int) → G := fun (y0, y1) => (.tup [(.at (.int .i64 y0)), (.at (.int .i64 y1))])
noncomputable def f20_k0 : (Int × Int) → List (Nat × Blk) := fun (y0, y1) => []
noncomputable def f20_k (x1 : Int) : (Int × Int) → List (Nat × Blk) := fun (y0, y1) => []
noncomputable def f20_A (x1 : Int) : List G := [(.r (.at (.int .i64 x1)))]
noncomputable def f20_K (x1 : Int) : List (Nat × Blk) := []
def f20_C (x1 : Int) (r : Int × Int) : Prop := CallOK cx 20 (f20_A x1) (f20_K x1) [] (f20_v r) (f20_k x1 r)

def f22_M : List Nat := []
noncomputable def f22_p2_H (x1 : Int) (x3 : Int) : GS := ⟨[(0, (.r (.at (.int .i64 x1)))), (9, (.r (.at (.int .i64 x3))))], []⟩
noncomputable def f22_p2_x : f22_p2_R → GExit := fun
  | .c0 y0 => .ret
  | .c1 => (.exit 0)
noncomputable def f22_p2_s (x1 : Int) : f22_p2_R → GS := fun
  | .c0 y0 => ⟨[(2, (.r (.at (.int .i64 y0)))), (3, (.r (.at (.int .i64 0))))], []⟩
  | .c1 => ⟨[], []⟩
def f22_p2_P (x1 : Int) (x3 : Int) (r : f22_p2_R) : Prop := Lp cx f22_M 33 (part Try.f22 2) (f22_p2_H x1 x3) (f22_p2_x r) (f22_p2_s x1 r)
noncomputable def f22_v : (Int × Int) → G := fun (y0, y1) => (.tup [(.at (.int .i64 y0)), (.at (.int .i64 y1))])
noncomputable def f22_k0 : (Int × Int) → List (Nat × Blk) := fun (y0, y1) => []
noncomputable def f22_k (x1 : Int) : (Int × Int) → List (Nat × Blk) := fun (y0, y1) => []
noncomputable def f22_A (x1 : Int) : List G := [(.r (.at (.int .i64 x1)))]
noncomputable def f22_K (x1 : Int) : List (Nat × Blk) := []
def f22_C (x1 : Int) (r : Int × Int) : Prop := CallOK cx 22 (f22_A x1) (f22_K x1) [] (f22_v r) (f22_k x1 r)

def f72_M : List Nat := []
noncomputable def f72_p1_H (x1 : List Int) (x2 : Int) (x3 : Int) : GS := ⟨[(3, (.r (.at (.int .i64 x2)))), (6, (.r (.at (.lst (.int .i64) x1 false)))), (7, (.r (.at (.int .i64 ((List.length x1 : Nat) : Int))))), (8, (.r (.at (.int .i64 x3))))], []⟩
noncomputable def f72_p1_x : Int → GExit := fun y0 => (.exit 0)
noncomputable def f72_p1_s (x1 : List Int) : Int → GS := fun y0 => ⟨[(3, (.r (.at (.int .i64 y0))))], []⟩
def f72_p1_P (x1 : List Int) (x2 : Int) (x3 : Int) (r : Int) : Prop := Lp cx f72_M 17 (part Try.f72 1) (f72_p1_H x1 x2 x3) (f72_p1_x r) (f72_p1_s x1 r)
noncomputable def f72_v : Int → G := fun y0 => (.r (.at (.int .i64 y0)))
noncomputable def f72_k0 : Int → List (Nat × Blk) := fun y0 => []
noncomputable def f72_k (x1 : List Int) : Int → List (Nat × Blk) := fun y0 => []
noncomputable def f72_A (x1 : List Int) : List G := [(.r (.at (.lst (.int .i64) x1 false)))]
noncomputable def f72_K (x1 : List Int) : List (Nat × Blk) := []
def f72_C (x1 : List Int) (r : Int) : Prop := CallOK cx 72 (f72_A x1) (f72_K x1) [] (f72_v r) (f72_k x1 r)

def f84_1_M : List Nat := []
def f83_1_M : List Nat := [14]
def f58_1_M : List Nat := [10, 11, 12]
noncomputable def f84_1_v : (Int × (List (Option Int))) → G := fun (y0, y1) => (.r (.at (.int .i64 y0)))
noncomputable def f84_1_k0 : (Int × (List (Option Int))) → List (Nat × Blk) := fun (y0, y1) => [(9, (.var [.arr (.opt (.int .i64)) 961 y1]))]
noncomputable def f84_1_k (x1 : List (Option Int)) (x2 : Int) (x3 : Int) : (Int × (List (Option Int))) → List (Nat × Blk) := fun (y0, y1) => [(9, (.var [.arr (.opt (.int .i64)) 961 y1])), (10, (.var [.cell (.ptr 9 0 0)])), (11, (.var [.cell (.int .i64 x2)])), (12, (.var [.cell (.int .i64 x3)]))]
noncomputable def f84_1_A (x1 : List (Option Int)) (x2 : Int) (x3 : Int) : List G := [(.r (.at (.ptr 10 0 0))), (.r (.at (.ptr 11 0 0))), (.r (.at (.ptr 12 0 0)))]
noncomputable def f84_1_K (x1 : List (Option Int)) (x2 : Int) (x3 : Int) : List (Nat × Blk) := [(9, (.var [.arr (.opt (.int .i64)) 961 x1])), (10, (.var [.cell (.ptr 9 0 0)])), (11, (.var [.cell (.int .i64 x2)])), (12, (.var [.cell (.int .i64 x3)]))]
def f84_1_C (x1 : List (Option Int)) (x2 : Int) (x3 : Int) (r : Int × (List (Option Int))) : Prop := CallOK cx 84 (f84_1_A x1 x2 x3) (f84_1_K x1 x2 x3) [] (f84_1_v r) (f84_1_k x1 x2 x3 r)
noncomputable def f83_1_v : (Int × (List (Option Int))) → G := fun (y0, y1) => (.r (.at (.int .i64 y0)))
noncomputable def f83_1_k0 : (Int × (List (Option Int))) → List (Nat × Blk) := fun (y0, y1) => [(9, (.var [.arr (.opt (.int .i64)) 961 y1]))]
noncomputable def f83_1_k (x1 : Int) (x2 : Int) (x3 : List (Option Int)) (x4 : Int) (x5 : Int) : (Int × (List (Option Int))) → List (Nat × Blk) := fun (y0, y1) => [(9, (.var [.arr (.opt (.int .i64)) 961 y1])), (10, (.var [.cell (.ptr 9 0 0)])), (11, (.var [.cell (.int .i64 x4)])), (12, (.var [.cell (.int .i64 x5)]))]
noncomputable def f83_1_A (x1 : Int) (x2 : Int) (x3 : List (Option Int)) (x4 : Int) (x5 : Int) : List G := [(.r (.at (.ptr 9 0 0))), (.r (.at (.int .i64 x1))), (.r (.at (.int .i64 x2))), (.r (.at (.app2 (.app2 (.app2 (.fn 84) (.ptr 10 0 0)) (.ptr 11 0 0)) (.ptr 12 0 0))))]
noncomputable def f83_1_K (x1 : Int) (x2 : Int) (x3 : List (Option Int)) (x4 : Int) (x5 : Int) : List (Nat × Blk) := [(9, (.var [.arr (.opt (.int .i64)) 961 x3])), (10, (.var [.cell (.ptr 9 0 0)])), (11, (.var [.cell (.int .i64 x4)])), (12, (.var [.cell (.int .i64 x5)]))]
def f83_1_C (x1 : Int) (x2 : Int) (x3 : List (Option Int)) (x4 : Int) (x5 : Int) (r : Int × (List (Option Int))) : Prop := CallOK cx 83 (f83_1_A x1 x2 x3 x4 x5) (f83_1_K x1 x2 x3 x4 x5) [] (f83_1_v r) (f83_1_k x1 x2 x3 x4 x5 r)
noncomputable def f58_1_v : (Int × (List (Option Int))) → G := fun (y0, y1) => (.r (.at (.int .i64 y0)))
noncomputable def f58_1_k0 : (Int × (List (Option Int))) → List (Nat × Blk) := fun (y0, y1) => [(9, (.var [.arr (.opt (.int .i64)) 961 y1]))]
noncomputable def f58_1_k (x1 : Int) (x2 : Int) (x3 : List (Option Int)) : (Int × (List (Option Int))) → List (Nat × Blk) := fun (y0, y1) => [(9, (.var [.arr (.opt (.int .i64)) 961 y1]))]
noncomputable def f58_1_A (x1 : Int) (x2 : Int) (x3 : List (Option Int)) : List G := [(.r (.at (.ptr 9 0 0))), (.r (.at (.int .i64 x1))), (.r (.at (.int .i64 x2)))]
noncomputable def f58_1_K (x1 : Int) (x2 : Int) (x3 : List (Option Int)) : List (Nat × Blk) := [(9, (.var [.arr (.opt (.int .i64)) 961 x3]))]
def f58_1_C (x1 : Int) (x2 : Int) (x3 : List (Option Int)) (r : Int × (List (Option Int))) : Prop := CallOK cx 58 (f58_1_A x1 x2 x3) (f58_1_K x1 x2 x3) [] (f58_1_v r) (f58_1_k x1 x2 x3 r)

def f36_M : List Nat := [9]
noncomputable def f36_p2_H (x1 : List Int) (x10 : Int) (x11 : Int) (x12 : Int) (x13 : List (Option Int)) : GS := ⟨[(5, (.r (.at (.ptr 9 0 0)))), (6, (.r (.at (.int .i64 x10)))), (7, (.r (.at (.int .i64 x11)))), (18, (.r (.at (.lst (.int .i64) x1 false)))), (19, (.r (.at (.int .i64 ((List.length x1 : Nat) : Int))))), (20, (.r (.at (.int .i64 x12))))], [(9, (.var [.arr (.opt (.int .i64)) 961 x13]))]⟩
noncomputable def f36_p2_x : Int → GExit := fun y0 => (.exit 0)
noncomputable def f36_p2_s (x1 : List Int) : Int → GS := fun y0 => ⟨[(7, (.r (.at (.int .i64 y0))))], []⟩
def f36_p2_P (x1 : List Int) (x10 : Int) (x11 : Int) (x12 : Int) (x13 : List (Option Int)) (r : Int) : Prop := Lp cx f36_M 36 (part Try.f36 2) (f36_p2_H x1 x10 x11 x12 x13) (f36_p2_x r) (f36_p2_s x1 r)
noncomputable def f36_v : (Int × Int) → G := fun (y0, y1) => (.tup [(.at (.int .i64 y0)), (.at (.int .i64 y1))])
noncomputable def f36_k0 : (Int × Int) → List (Nat × Blk) := fun (y0, y1) => []
noncomputable def f36_k (x1 : List Int) : (Int × Int) → List (Nat × Blk) := fun (y0, y1) => []
noncomputable def f36_A (x1 : List Int) : List G := [(.r (.at (.lst (.int .i64) x1 false)))]
noncomputable def f36_K (x1 : List Int) : List (Nat × Blk) := []
def f36_C (x1 : List Int) (r : Int × Int) : Prop := CallOK cx 36 (f36_A x1) (f36_K x1) [] (f36_v r) (f36_k x1 r)

def f84_2_M : List Nat := []
def f83_2_M : List Nat := [20]
def f58_2_M : List Nat := [16, 17, 18]
noncomputable def f84_2_v : (Int × (List (Option Int))) → G := fun (y0, y1) => (.r (.at (.int .i64 y0)))
noncomputable def f84_2_k0 : (Int × (List (Option Int))) → List (Nat × Blk) := fun (y0, y1) => [(15, (.var [.arr (.opt (.int .i64)) 961 y1]))]
noncomputable def f84_2_k (x1 : List (Option Int)) (x2 : Int) (x3 : Int) : (Int × (List (Option Int))) → List (Nat × Blk) := fun (y0, y1) => [(15, (.var [.arr (.opt (.int .i64)) 961 y1])), (16, (.var [.cell (.ptr 15 0 0)])), (17, (.var [.cell (.int .i64 x2)])), (18, (.var [.cell (.int .i64 x3)]))]
noncomputable def f84_2_A (x1 : List (Option Int)) (x2 : Int) (x3 : Int) : List G := [(.r (.at (.ptr 16 0 0))), (.r (.at (.ptr 17 0 0))), (.r (.at (.ptr 18 0 0)))]
noncomputable def f84_2_K (x1 : List (Option Int)) (x2 : Int) (x3 : Int) : List (Nat × Blk) := [(15, (.var [.arr (.opt (.int .i64)) 961 x1])), (16, (.var [.cell (.ptr 15 0 0)])), (17, (.var [.cell (.int .i64 x2)])), (18, (.var [.cell (.int .i64 x3)]))]
def f84_2_C (x1 : List (Option Int)) (x2 : Int) (x3 : Int) (r : Int × (List (Option Int))) : Prop := CallOK cx 84 (f84_2_A x1 x2 x3) (f84_2_K x1 x2 x3) [] (f84_2_v r) (f84_2_k x1 x2 x3 r)
noncomputable def f83_2_v : (Int × (List (Option Int))) → G := fun (y0, y1) => (.r (.at (.int .i64 y0)))
noncomputable def f83_2_k0 : (Int × (List (Option Int))) → List (Nat × Blk) := fun (y0, y1) => [(15, (.var [.arr (.opt (.int .i64)) 961 y1]))]
noncomputable def f83_2_k (x1 : Int) (x2 : Int) (x3 : List (Option Int)) (x4 : Int) (x5 : Int) : (Int × (List (Option Int))) → List (Nat × Blk) := fun (y0, y1) => [(15, (.var [.arr (.opt (.int .i64)) 961 y1])), (16, (.var [.cell (.ptr 15 0 0)])), (17, (.var [.cell (.int .i64 x4)])), (18, (.var [.cell (.int .i64 x5)]))]
noncomputable def f83_2_A (x1 : Int) (x2 : Int) (x3 : List (Option Int)) (x4 : Int) (x5 : Int) : List G := [(.r (.at (.ptr 15 0 0))), (.r (.at (.int .i64 x1))), (.r (.at (.int .i64 x2))), (.r (.at (.app2 (.app2 (.app2 (.fn 84) (.ptr 16 0 0)) (.ptr 17 0 0)) (.ptr 18 0 0))))]
noncomputable def f83_2_K (x1 : Int) (x2 : Int) (x3 : List (Option Int)) (x4 : Int) (x5 : Int) : List (Nat × Blk) := [(15, (.var [.arr (.opt (.int .i64)) 961 x3])), (16, (.var [.cell (.ptr 15 0 0)])), (17, (.var [.cell (.int .i64 x4)])), (18, (.var [.cell (.int .i64 x5)]))]
def f83_2_C (x1 : Int) (x2 : Int) (x3 : List (Option Int)) (x4 : Int) (x5 : Int) (r : Int × (List (Option Int))) : Prop := CallOK cx 83 (f83_2_A x1 x2 x3 x4 x5) (f83_2_K x1 x2 x3 x4 x5) [] (f83_2_v r) (f83_2_k x1 x2 x3 x4 x5 r)
noncomputable def f58_2_v : (Int × (List (Option Int))) → G := fun (y0, y1) => (.r (.at (.int .i64 y0)))
noncomputable def f58_2_k0 : (Int × (List (Option Int))) → List (Nat × Blk) := fun (y0, y1) => [(15, (.var [.arr (.opt (.int .i64)) 961 y1]))]
noncomputable def f58_2_k (x1 : Int) (x2 : Int) (x3 : List (Option Int)) : (Int × (List (Option Int))) → List (Nat × Blk) := fun (y0, y1) => [(15, (.var [.arr (.opt (.int .i64)) 961 y1]))]
noncomputable def f58_2_A (x1 : Int) (x2 : Int) (x3 : List (Option Int)) : List G := [(.r (.at (.ptr 15 0 0))), (.r (.at (.int .i64 x1))), (.r (.at (.int .i64 x2)))]
noncomputable def f58_2_K (x1 : Int) (x2 : Int) (x3 : List (Option Int)) : List (Nat × Blk) := [(15, (.var [.arr (.opt (.int .i64)) 961 x3]))]
def f58_2_C (x1 : Int) (x2 : Int) (x3 : List (Option Int)) (r : Int × (List (Option Int))) : Prop := CallOK cx 58 (f58_2_A x1 x2 x3) (f58_2_K x1 x2 x3) [] (f58_2_v r) (f58_2_k x1 x2 x3 r)

def f38_M : List Nat := [15, 21]
noncomputable def f38_p8_2_H (x36 : Int) (x37 : Int) (x35 : List Int) (x42 : Int) (x43 : List (Option Int)) : GS := ⟨[(0, (.r (.at (.int .i64 x36)))), (1, (.r (.at (.int .i64 x37)))), (8, (.r (.at (.ptr 15 0 0)))), (9, (.r (.at (.sl 21 0 (List.length x35))))), (10, (.r (.at (.int .i64 x42))))], [(15, (.var [.arr (.opt (.int .i64)) 961 x43])), (21, (.gr (.int .i64) 3 x35 true))]⟩
noncomputable def f38_p8_2_x : (Int × (List (Option Int))) → GExit := fun (y0, y1) => (.exit 3)
noncomputable def f38_p8_2_s (x36 : Int) (x37 : Int) (x35 : List Int) : (Int × (List (Option Int))) → GS := fun (y0, y1) => ⟨[(0, (.r (.at (.int .i64 x36)))), (1, (.r (.at (.int .i64 x37)))), (8, (.r (.at (.ptr 15 0 0)))), (9, (.r (.at (.sl 21 0 (List.length x35))))), (10, (.r (.at (.int .i64 y0))))], [(15, (.var [.arr (.opt (.int .i64)) 961 y1])), (21, (.gr (.int .i64) 3 x35 true))]⟩
def f38_p8_2_P (x36 : Int) (x37 : Int) (x35 : List Int) (x42 : Int) (x43 : List (Option Int)) (r : Int × (List (Option Int))) : Prop := Lp cx f38_M 53 (part Try.f38 8) (f38_p8_2_H x36 x37 x35 x42 x43) (f38_p8_2_x r) (f38_p8_2_s x36 x37 x35 r)
noncomputable def f38_p4_H (x36 : Int) (x37 : Int) (x38 : List (Option Int)) (x35 : List Int) : GS := ⟨[(0, (.r (.at (.int .i64 x36)))), (1, (.r (.at (.int .i64 x37)))), (8, (.r (.at (.ptr 15 0 0)))), (9, (.r (.at (.sl 21 0 (List.length x35)))))], [(15, (.var [.arr (.opt (.int .i64)) 961 x38])), (21, (.gr (.int .i64) 3 x35 true))]⟩
noncomputable def f38_p4_x : (List Int) → GExit := fun y0 => (.exit 1)
noncomputable def f38_p4_s : (List Int) → GS := fun y0 => ⟨[(9, (.r (.at (.sl 21 0 (List.length y0)))))], [(21, (.gr (.int .i64) 3 y0 true))]⟩
def f38_p4_P (x36 : Int) (x37 : Int) (x38 : List (Option Int)) (x35 : List Int) (r : (List Int)) : Prop := Lp cx f38_M 53 (part Try.f38 4) (f38_p4_H x36 x37 x38 x35) (f38_p4_x r) (f38_p4_s r)
noncomputable def f38_v : ((List Int) × Int) → G := fun (y0, y1) => (.tup [(.at (.lst (.int .i64) y0 false)), (.at (.int .i64 y1))])
noncomputable def f38_k0 : ((List Int) × Int) → List (Nat × Blk) := fun (y0, y1) => []
noncomputable def f38_k (x1 : Int) (x2 : Int) : ((List Int) × Int) → List (Nat × Blk) := fun (y0, y1) => []
noncomputable def f38_A (x1 : Int) (x2 : Int) : List G := [(.r (.at (.int .i64 x1))), (.r (.at (.int .i64 x2)))]
noncomputable def f38_K (x1 : Int) (x2 : Int) : List (Nat × Blk) := []
def f38_C (x1 : Int) (x2 : Int) (r : (List Int) × Int) : Prop := CallOK cx 38 (f38_A x1 x2) (f38_K x1 x2) [] (f38_v r) (f38_k x1 x2 r)

def f64_M : List Nat := []
noncomputable def f64_v : Bool → G := fun y0 => (.r (.at (.bool y0)))
noncomputable def f64_k0 : Bool → List (Nat × Blk) := fun y0 => []
noncomputable def f64_k (x1 : Int) : Bool → List (Nat × Blk) := fun y0 => []
noncomputable def f64_A (x1 : Int) : List G := [(.r (.at (.int .i64 x1)))]
noncomputable def f64_K (x1 : Int) : List (Nat × Blk) := []
def f64_C (x1 : Int) (r : Bool) : Prop := CallOK cx 64 (f64_A x1) (f64_K x1) [] (f64_v r) (f64_k x1 r)

def f85_M : List Nat := []
noncomputable def f85_p1_H (x1 : List Int) (x2 : Int) : GS := ⟨[(0, (.r (.at (.lst (.int .i64) x1 false)))), (1, (.r (.at (.fn 64)))), (7, (.r (.at (.int .i64 ((List.length x1 : Nat) : Int))))), (8, (.r (.at (.int .i64 x2))))], []⟩
noncomputable def f85_p1_x : f85_p1_R → GExit := fun
  | .c0 y0 => .ret
  | .c1 => (.exit 0)
noncomputable def f85_p1_s (x1 : List Int) : f85_p1_R → GS := fun
  | .c0 y0 => ⟨[(4, (.r (.at (.int .i64 y0))))], []⟩
  | .c1 => ⟨[], []⟩
def f85_p1_P (x1 : List Int) (x2 : Int) (r : f85_p1_R) : Prop := Lp cx f85_M 19 (part Try.f85 1) (f85_p1_H x1 x2) (f85_p1_x r) (f85_p1_s x1 r)
noncomputable def f85_v : Int → G := fun y0 => (.r (.at (.int .i64 y0)))
noncomputable def f85_k0 : Int → List (Nat × Blk) := fun y0 => []
noncomputable def f85_k (x1 : List Int) : Int → List (Nat × Blk) := fun y0 => []
noncomputable def f85_A (x1 : List Int) : List G := [(.r (.at (.lst (.int .i64) x1 false))), (.r (.at (.fn 64)))]
noncomputable def f85_K (x1 : List Int) : List (Nat × Blk) := []
def f85_C (x1 : List Int) (r : Int) : Prop := CallOK cx 85 (f85_A x1) (f85_K x1) [] (f85_v r) (f85_k x1 r)

def f63_M : List Nat := []
noncomputable def f63_v : Bool → G := fun y0 => (.r (.at (.bool y0)))
noncomputable def f63_k0 : Bool → List (Nat × Blk) := fun y0 => []
noncomputable def f63_k (x1 : List Int) : Bool → List (Nat × Blk) := fun y0 => []
noncomputable def f63_A (x1 : List Int) : List G := [(.r (.at (.lst (.int .i64) x1 false))), (.r (.at (.fn 64)))]
noncomputable def f63_K (x1 : List Int) : List (Nat × Blk) := []
def f63_C (x1 : List Int) (r : Bool) : Prop := CallOK cx 63 (f63_A x1) (f63_K x1) [] (f63_v r) (f63_k x1 r)

def f106_M : List Nat := []
noncomputable def f106_p0_H (x1 : Int) : GS := ⟨[(0, (.r (.at (.int .u64 x1)))), (2, (.r (.at (.int .i64 0)))), (4, (.r (.at (.bool (decide (x1 ≥ 4294967296))))))], []⟩
noncomputable def f106_p0_x : (Int × Int) → GExit := fun (y0, y1) => .normal
noncomputable def f106_p0_s (x1 : Int) : (Int × Int) → GS := fun (y0, y1) => ⟨[(0, (.r (.at (.int .u64 y0)))), (2, (.r (.at (.int .i64 y1))))], []⟩
def f106_p0_P (x1 : Int) (r : Int × Int) : Prop := Ex cx f106_M 25 (part Try.f106 0) (f106_p0_H x1) (f106_p0_x r) (f106_p0_s x1 r)
noncomputable def f106_p1_H (x2 : Int) (x3 : Int) : GS := ⟨[(0, (.r (.at (.int .u64 x2)))), (2, (.r (.at (.int .i64 x3)))), (8, (.r (.at (.bool (decide (x2 ≥ 65536))))))], []⟩
noncomputable def f106_p1_x : (Int × Int) → GExit := fun (y0, y1) => .normal
noncomputable def f106_p1_s (x2 : Int) (x3 : Int) : (Int × Int) → GS := fun (y0, y1) => ⟨[(0, (.r (.at (.int .u64 y0)))), (2, (.r (.at (.int .i64 y1))))], []⟩
def f106_p1_P (x2 : Int) (x3 : Int) (r : Int × Int) : Prop := Ex cx f106_M 25 (part Try.f106 1) (f106_p1_H x2 x3) (f106_p1_x r) (f106_p1_s x2 x3 r)
noncomputable def f106_p2_H (x4 : Int) (x5 : Int) : GS := ⟨[(0, (.r (.at (.int .u64 x4)))), (2, (.r (.at (.int .i64 x5)))), (14, (.r (.at (.bool (decide (x4 ≥ 256))))))], []⟩
noncomputable def f106_p2_x : (Int × Int) → GExit := fun (y0, y1) => .normal
noncomputable def f106_p2_s (x4 : Int) (x5 : Int) : (Int × Int) → GS := fun (y0, y1) => ⟨[(0, (.r (.at (.int .u64 y0)))), (2, (.r (.at (.int .i64 y1))))], []⟩
def f106_p2_P (x4 : Int) (x5 : Int) (r : Int × Int) : Prop := Ex cx f106_M 25 (part Try.f106 2) (f106_p2_H x4 x5) (f106_p2_x r) (f106_p2_s x4 x5 r)
noncomputable def f106_v : Int → G := fun y0 => (.r (.at (.int .i64 y0)))
noncomputable def f106_k0 : Int → List (Nat × Blk) := fun y0 => []
noncomputable def f106_k (x1 : Int) : Int → List (Nat × Blk) := fun y0 => []
noncomputable def f106_A (x1 : Int) : List G := [(.r (.at (.int .u64 x1)))]
noncomputable def f106_K (x1 : Int) : List (Nat × Blk) := []
def f106_C (x1 : Int) (r : Int) : Prop := CallOK cx 106 (f106_A x1) (f106_K x1) [] (f106_v r) (f106_k x1 r)

def f92_M : List Nat := []
noncomputable def f92_v : Int → G := fun y0 => (.r (.at (.int .i64 y0)))
noncomputable def f92_k0 : Int → List (Nat × Blk) := fun y0 => []
noncomputable def f92_k (x1 : Int) : Int → List (Nat × Blk) := fun y0 => []
noncomputable def f92_A (x1 : Int) : List G := [(.r (.at (.int .u64 x1)))]
noncomputable def f92_K (x1 : Int) : List (Nat × Blk) := []
def f92_C (x1 : Int) (r : Int) : Prop := CallOK cx 92 (f92_A x1) (f92_K x1) [] (f92_v r) (f92_k x1 r)

def f87_M : List Nat := []
noncomputable def f87_v : Int → G := fun y0 => (.r (.at (.int .i64 y0)))
noncomputable def f87_k0 : Int → List (Nat × Blk) := fun y0 => []
noncomputable def f87_k (x1 : Int) (x2 : Int) : Int → List (Nat × Blk) := fun y0 => []
noncomputable def f87_A (x1 : Int) (x2 : Int) : List G := [(.r (.at (.int .i64 x1))), (.r (.at (.int .i64 x2)))]
noncomputable def f87_K (x1 : Int) (x2 : Int) : List (Nat × Blk) := []
def f87_C (x1 : Int) (x2 : Int) (r : Int) : Prop := CallOK cx 87 (f87_A x1 x2) (f87_K x1 x2) [] (f87_v r) (f87_k x1 x2 r)

def f107_M : List Nat := []
noncomputable def f107_p5_1_H (x1 : Nat) (x2 : Nat) (x3 : Int) (x4 : Int) (x18 : Int) (x24 : Int) (x23 : List Int) : GS := ⟨[(0, (.r (.at (.sl 23 x1 x2)))), (1, (.r (.at (.int .i64 x3)))), (2, (.r (.at (.int .i64 x4)))), (3, (.r (.at (.fn 87)))), (8, (.r (.at (.int .i64 x18)))), (9, (.r (.at (.int .i64 x24))))], [(23, (.gr (.int .i64) 3 x23 true))]⟩
noncomputable def f107_p5_1_x : (List Int) → GExit := fun y0 => (.exit 2)
noncomputable def f107_p5_1_s (x1 : Nat) (x2 : Nat) (x3 : Int) (x4 : Int) (x18 : Int) : (List Int) → GS := fun y0 => ⟨[(0, (.r (.at (.sl 23 x1 x2)))), (1, (.r (.at (.int .i64 x3)))), (2, (.r (.at (.int .i64 x4)))), (3, (.r (.at (.fn 87)))), (8, (.r (.at (.int .i64 x18))))], [(23, (.gr (.int .i64) 3 y0 true))]⟩
def f107_p5_1_P (x1 : Nat) (x2 : Nat) (x3 : Int) (x4 : Int) (x18 : Int) (x24 : Int) (x23 : List Int) (r : (List Int)) : Prop := Lp cx f107_M 53 (part Try.f107 5) (f107_p5_1_H x1 x2 x3 x4 x18 x24 x23) (f107_p5_1_x r) (f107_p5_1_s x1 x2 x3 x4 x18 r)
noncomputable def f107_p1_H (x1 : Nat) (x2 : Nat) (x3 : Int) (x4 : Int) (x18 : Int) (x17 : List Int) : GS := ⟨[(0, (.r (.at (.sl 23 x1 x2)))), (1, (.r (.at (.int .i64 x3)))), (2, (.r (.at (.int .i64 x4)))), (3, (.r (.at (.fn 87)))), (8, (.r (.at (.int .i64 x18))))], [(23, (.gr (.int .i64) 3 x17 true))]⟩
noncomputable def f107_p1_x : (List Int) → GExit := fun y0 => (.exit 0)
noncomputable def f107_p1_s (x1 : Nat) (x2 : Nat) (x3 : Int) (x4 : Int) : (List Int) → GS := fun y0 => ⟨[], [(23, (.gr (.int .i64) 3 y0 true))]⟩
def f107_p1_P (x1 : Nat) (x2 : Nat) (x3 : Int) (x4 : Int) (x18 : Int) (x17 : List Int) (r : (List Int)) : Prop := Lp cx f107_M 53 (part Try.f107 1) (f107_p1_H x1 x2 x3 x4 x18 x17) (f107_p1_x r) (f107_p1_s x1 x2 x3 x4 r)
noncomputable def f107_v : (List Int) → G := fun y0 => (.r (.at .unit0))
noncomputable def f107_k0 : (List Int) → List (Nat × Blk) := fun y0 => [(23, (.gr (.int .i64) 3 y0 true))]
noncomputable def f107_k (x1 : Nat) (x2 : Nat) (x3 : Int) (x4 : Int) (x5 : List Int) : (List Int) → List (Nat × Blk) := fun y0 => [(23, (.gr (.int .i64) 3 y0 true))]
noncomputable def f107_A (x1 : Nat) (x2 : Nat) (x3 : Int) (x4 : Int) (x5 : List Int) : List G := [(.r (.at (.sl 23 x1 x2))), (.r (.at (.int .i64 x3))), (.r (.at (.int .i64 x4))), (.r (.at (.fn 87)))]
noncomputable def f107_K (x1 : Nat) (x2 : Nat) (x3 : Int) (x4 : Int) (x5 : List Int) : List (Nat × Blk) := [(23, (.gr (.int .i64) 3 x5 true))]
def f107_C (x1 : Nat) (x2 : Nat) (x3 : Int) (x4 : Int) (x5 : List Int) (r : (List Int)) : Prop := CallOK cx 107 (f107_A x1 x2 x3 x4 x5) (f107_K x1 x2 x3 x4 x5) [] (f107_v r) (f107_k x1 x2 x3 x4 x5 r)

def f116_M : List Nat := []
noncomputable def f116_v : Int → G := fun y0 => (.r (.at (.int .u64 y0)))
noncomputable def f116_k0 : Int → List (Nat × Blk) := fun y0 => []
noncomputable def f116_k (x1 : Int) : Int → List (Nat × Blk) := fun y0 => []
noncomputable def f116_A (x1 : Int) : List G := [(.r (.at (.int .i64 x1)))]
noncomputable def f116_K (x1 : Int) : List (Nat × Blk) := []
def f116_C (x1 : Int) (r : Int) : Prop := CallOK cx 116 (f116_A x1) (f116_K x1) [] (f116_v r) (f116_k x1 r)

def f117_M : List Nat := []
noncomputable def f117_v : (Int × Int) → G := fun (y0, y1) => (.r (.at (.int .u64 y0)))
noncomputable def f117_k0 : (Int × Int) → List (Nat × Blk) := fun (y0, y1) => [(24, (.var [.cell (.int .u64 y1)]))]
noncomputable def f117_k (x1 : Int) : (Int × Int) → List (Nat × Blk) := fun (y0, y1) => [(24, (.var [.cell (.int .u64 y1)]))]
noncomputable def f117_A (x1 : Int) : List G := [(.r (.at (.ptr 24 0 0)))]
noncomputable def f117_K (x1 : Int) : List (Nat × Blk) := [(24, (.var [.cell (.int .u64 x1)]))]
def f117_C (x1 : Int) (r : Int × Int) : Prop := CallOK cx 117 (f117_A x1) (f117_K x1) [] (f117_v r) (f117_k x1 r)

def f109_M : List Nat := [24]
noncomputable def f109_p5_1_H (x1 : Nat) (x2 : Nat) (x3 : Int) (x4 : Int) (x6 : Int) (x14 : Int) (x16 : Int) (x13 : List Int) (x17 : Int) : GS := ⟨[(0, (.r (.at (.sl 23 x1 x2)))), (1, (.r (.at (.int .i64 x3)))), (8, (.r (.at (.int .i64 (w64 (x4 - x3)))))), (9, (.r (.at (.ptr 24 0 0)))), (10, (.r (.at (.int .u64 x6)))), (11, (.r (.at (.int .i64 x14)))), (12, (.r (.at (.int .i64 (w64 ((iAnd .u64 x16 (IntKind.wrap .u64 (x6 - 1))))))))), (45, (.r (.at (.bool (decide ((w64 ((iAnd .u64 x16 (IntKind.wrap .u64 (x6 - 1))))) ≥ (w64 (x4 - x3))))))))], [(23, (.gr (.int .i64) 3 x13 true)), (24, (.var [.cell (.int .u64 x17)]))]⟩
noncomputable def f109_p5_1_x : Int → GExit := fun y0 => .normal
noncomputable def f109_p5_1_s (x1 : Nat) (x2 : Nat) (x3 : Int) (x4 : Int) (x6 : Int) (x14 : Int) (x16 : Int) (x13 : List Int) (x17 : Int) : Int → GS := fun y0 => ⟨[(0, (.r (.at (.sl 23 x1 x2)))), (1, (.r (.at (.int .i64 x3)))), (8, (.r (.at (.int .i64 (w64 (x4 - x3)))))), (9, (.r (.at (.ptr 24 0 0)))), (10, (.r (.at (.int .u64 x6)))), (11, (.r (.at (.int .i64 x14)))), (12, (.r (.at (.int .i64 y0))))], [(23, (.gr (.int .i64) 3 x13 true)), (24, (.var [.cell (.int .u64 x17)]))]⟩
def f109_p5_1_P (x1 : Nat) (x2 : Nat) (x3 : Int) (x4 : Int) (x6 : Int) (x14 : Int) (x16 : Int) (x13 : List Int) (x17 : Int) (r : Int) : Prop := Ex cx f109_M 67 (part Try.f109 5) (f109_p5_1_H x1 x2 x3 x4 x6 x14 x16 x13 x17) (f109_p5_1_x r) (f109_p5_1_s x1 x2 x3 x4 x6 x14 x16 x13 x17 r)
noncomputable def f109_p2_H (x1 : Nat) (x2 : Nat) (x3 : Int) (x4 : Int) (x6 : Int) (x14 : Int) (x13 : List Int) (x15 : Int) : GS := ⟨[(0, (.r (.at (.sl 23 x1 x2)))), (1, (.r (.at (.int .i64 x3)))), (8, (.r (.at (.int .i64 (w64 (x4 - x3)))))), (9, (.r (.at (.ptr 24 0 0)))), (10, (.r (.at (.int .u64 x6)))), (11, (.r (.at (.int .i64 x14))))], [(23, (.gr (.int .i64) 3 x13 true)), (24, (.var [.cell (.int .u64 x15)]))]⟩
noncomputable def f109_p2_x : (List Int) → GExit := fun y0 => (.exit 0)
noncomputable def f109_p2_s (x1 : Nat) (x2 : Nat) (x3 : Int) (x4 : Int) (x6 : Int) : (List Int) → GS := fun y0 => ⟨[], [(23, (.gr (.int .i64) 3 y0 true))]⟩
def f109_p2_P (x1 : Nat) (x2 : Nat) (x3 : Int) (x4 : Int) (x6 : Int) (x14 : Int) (x13 : List Int) (x15 : Int) (r : (List Int)) : Prop := Lp cx f109_M 67 (part Try.f109 2) (f109_p2_H x1 x2 x3 x4 x6 x14 x13 x15) (f109_p2_x r) (f109_p2_s x1 x2 x3 x4 x6 r)
noncomputable def f109_p0_H (x1 : Nat) (x2 : Nat) (x3 : Int) (x4 : Int) (x5 : List Int) : GS := ⟨[(0, (.r (.at (.sl 23 x1 x2)))), (1, (.r (.at (.int .i64 x3)))), (8, (.r (.at (.int .i64 (w64 (x4 - x3)))))), (17, (.r (.at (.bool (decide ((w64 (x4 - x3)) ≥ 8))))))], [(23, (.gr (.int .i64) 3 x5 true))]⟩
noncomputable def f109_p0_x : (List Int) → GExit := fun y0 => .normal
noncomputable def f109_p0_s (x1 : Nat) (x2 : Nat) (x3 : Int) (x4 : Int) (x5 : List Int) : (List Int) → GS := fun y0 => ⟨[], [(23, (.gr (.int .i64) 3 y0 true))]⟩
def f109_p0_P (x1 : Nat) (x2 : Nat) (x3 : Int) (x4 : Int) (x5 : List Int) (r : (List Int)) : Prop := Ex cx f109_M 67 (part Try.f109 0) (f109_p0_H x1 x2 x3 x4 x5) (f109_p0_x r) (f109_p0_s x1 x2 x3 x4 x5 r)
noncomputable def f109_v : (List Int) → G := fun y0 => (.r (.at .unit0))
noncomputable def f109_k0 : (List Int) → List (Nat × Blk) := fun y0 => [(23, (.gr (.int .i64) 3 y0 true))]
noncomputable def f109_k (x1 : Nat) (x2 : Nat) (x3 : Int) (x4 : Int) (x5 : List Int) : (List Int) → List (Nat × Blk) := fun y0 => [(23, (.gr (.int .i64) 3 y0 true))]
noncomputable def f109_A (x1 : Nat) (x2 : Nat) (x3 : Int) (x4 : Int) (x5 : List Int) : List G := [(.r (.at (.sl 23 x1 x2))), (.r (.at (.int .i64 x3))), (.r (.at (.int .i64 x4))), (.r (.at (.fn 87)))]
noncomputable def f109_K (x1 : Nat) (x2 : Nat) (x3 : Int) (x4 : Int) (x5 : List Int) : List (Nat × Blk) := [(23, (.gr (.int .i64) 3 x5 true))]
def f109_C (x1 : Nat) (x2 : Nat) (x3 : Int) (x4 : Int) (x5 : List Int) (r : (List Int)) : Prop := CallOK cx 109 (f109_A x1 x2 x3 x4 x5) (f109_K x1 x2 x3 x4 x5) [] (f109_v r) (f109_k x1 x2 x3 x4 x5 r)

def f125_M : List Nat := []
noncomputable def f125_v : (Int × Int × Int) → G := fun (y0, y1, y2) => (.tup [(.at (.int .i64 y0)), (.at (.int .i64 y1))])
noncomputable def f125_k0 : (Int × Int × Int) → List (Nat × Blk) := fun (y0, y1, y2) => [(25, (.var [.cell (.int .i64 y2)]))]
noncomputable def f125_k (x1 : Nat) (x2 : Nat) (x3 : Int) (x4 : Int) (x5 : List Int) (x6 : Int) : (Int × Int × Int) → List (Nat × Blk) := fun (y0, y1, y2) => [(25, (.var [.cell (.int .i64 y2)])), (23, (.gr (.int .i64) 3 x5 true))]
noncomputable def f125_A (x1 : Nat) (x2 : Nat) (x3 : Int) (x4 : Int) (x5 : List Int) (x6 : Int) : List G := [(.r (.at (.sl 23 x1 x2))), (.r (.at (.int .i64 x3))), (.r (.at (.int .i64 x4))), (.r (.at (.ptr 25 0 0))), (.r (.at (.fn 87)))]
noncomputable def f125_K (x1 : Nat) (x2 : Nat) (x3 : Int) (x4 : Int) (x5 : List Int) (x6 : Int) : List (Nat × Blk) := [(23, (.gr (.int .i64) 3 x5 true)), (25, (.var [.cell (.int .i64 x6)]))]
def f125_C (x1 : Nat) (x2 : Nat) (x3 : Int) (x4 : Int) (x5 : List Int) (x6 : Int) (r : Int × Int × Int) : Prop := CallOK cx 125 (f125_A x1 x2 x3 x4 x5 x6) (f125_K x1 x2 x3 x4 x5 x6) [] (f125_v r) (f125_k x1 x2 x3 x4 x5 x6 r)

def f123_M : List Nat := []
noncomputable def f123_v : (Int × Int) → G := fun (y0, y1) => (.r (.at (.int .i64 y0)))
noncomputable def f123_k0 : (Int × Int) → List (Nat × Blk) := fun (y0, y1) => [(25, (.var [.cell (.int .i64 y1)]))]
noncomputable def f123_k (x1 : Nat) (x2 : Nat) (x3 : Int) (x4 : Int) (x5 : Int) (x6 : List Int) (x7 : Int) : (Int × Int) → List (Nat × Blk) := fun (y0, y1) => [(25, (.var [.cell (.int .i64 y1)])), (23, (.gr (.int .i64) 3 x6 true))]
noncomputable def f123_A (x1 : Nat) (x2 : Nat) (x3 : Int) (x4 : Int) (x5 : Int) (x6 : List Int) (x7 : Int) : List G := [(.r (.at (.sl 23 x1 x2))), (.r (.at (.int .i64 x3))), (.r (.at (.int .i64 x4))), (.r (.at (.int .i64 x5))), (.r (.at (.ptr 25 0 0))), (.r (.at (.fn 87)))]
noncomputable def f123_K (x1 : Nat) (x2 : Nat) (x3 : Int) (x4 : Int) (x5 : Int) (x6 : List Int) (x7 : Int) : List (Nat × Blk) := [(23, (.gr (.int .i64) 3 x6 true)), (25, (.var [.cell (.int .i64 x7)]))]
def f123_C (x1 : Nat) (x2 : Nat) (x3 : Int) (x4 : Int) (x5 : Int) (x6 : List Int) (x7 : Int) (r : Int × Int) : Prop := CallOK cx 123 (f123_A x1 x2 x3 x4 x5 x6 x7) (f123_K x1 x2 x3 x4 x5 x6 x7) [] (f123_v r) (f123_k x1 x2 x3 x4 x5 x6 x7 r)

def f122_M : List Nat := []
noncomputable def f122_v : (Int × Int) → G := fun (y0, y1) => (.r (.at (.int .i64 y0)))
noncomputable def f122_k0 : (Int × Int) → List (Nat × Blk) := fun (y0, y1) => [(25, (.var [.cell (.int .i64 y1)]))]
noncomputable def f122_k (x1 : Nat) (x2 : Nat) (x3 : Int) (x4 : List Int) (x5 : Int) : (Int × Int) → List (Nat × Blk) := fun (y0, y1) => [(25, (.var [.cell (.int .i64 y1)])), (23, (.gr (.int .i64) 3 x4 true))]
noncomputable def f122_A (x1 : Nat) (x2 : Nat) (x3 : Int) (x4 : List Int) (x5 : Int) : List G := [(.r (.at (.sl 23 x1 x2))), (.r (.at (.int .i64 x3))), (.r (.at (.ptr 25 0 0))), (.r (.at (.fn 87)))]
noncomputable def f122_K (x1 : Nat) (x2 : Nat) (x3 : Int) (x4 : List Int) (x5 : Int) : List (Nat × Blk) := [(23, (.gr (.int .i64) 3 x4 true)), (25, (.var [.cell (.int .i64 x5)]))]
def f122_C (x1 : Nat) (x2 : Nat) (x3 : Int) (x4 : List Int) (x5 : Int) (r : Int × Int) : Prop := CallOK cx 122 (f122_A x1 x2 x3 x4 x5) (f122_K x1 x2 x3 x4 x5) [] (f122_v r) (f122_k x1 x2 x3 x4 x5 r)

def f110_M : List Nat := [25]
noncomputable def f110_p1_H (x1 : Nat) (x2 : Nat) (x3 : Int) (x4 : Int) (x5 : List Int) : GS := ⟨[(0, (.r (.at (.sl 23 x1 x2)))), (3, (.r (.at (.fn 87)))), (11, (.r (.at (.ptr 25 0 0)))), (12, (.r (.at (.int .i64 (w64 (x3 + (w64 ((w64 (Int.tdiv (w64 (x4 - x3)) 4)) * 1)))))))), (13, (.r (.at (.int .i64 (w64 (x3 + (w64 ((w64 (Int.tdiv (w64 (x4 - x3)) 4)) * 2)))))))), (14, (.r (.at (.int .i64 (w64 (x3 + (w64 ((w64 (Int.tdiv (w64 (x4 - x3)) 4)) * 3)))))))), (36, (.r (.at (.bool (decide ((w64 (x4 - x3)) ≥ 50))))))], [(23, (.gr (.int .i64) 3 x5 true)), (25, (.var [.cell (.int .i64 0)]))]⟩
noncomputable def f110_p1_x : (Int × Int × Int × Int) → GExit := fun (y0, y1, y2, y3) => .normal
noncomputable def f110_p1_s (x1 : Nat) (x2 : Nat) (x3 : Int) (x4 : Int) (x5 : List Int) : (Int × Int × Int × Int) → GS := fun (y0, y1, y2, y3) => ⟨[(0, (.r (.at (.sl 23 x1 x2)))), (3, (.r (.at (.fn 87)))), (11, (.r (.at (.ptr 25 0 0)))), (12, (.r (.at (.int .i64 y0)))), (13, (.r (.at (.int .i64 y1)))), (14, (.r (.at (.int .i64 y2))))], [(23, (.gr (.int .i64) 3 x5 true)), (25, (.var [.cell (.int .i64 y3)]))]⟩
def f110_p1_P (x1 : Nat) (x2 : Nat) (x3 : Int) (x4 : Int) (x5 : List Int) (r : Int × Int × Int × Int) : Prop := Ex cx f110_M 63 (part Try.f110 1) (f110_p1_H x1 x2 x3 x4 x5) (f110_p1_x r) (f110_p1_s x1 x2 x3 x4 x5 r)
noncomputable def f110_p0_H (x1 : Nat) (x2 : Nat) (x4 : Int) (x3 : Int) (x5 : List Int) : GS := ⟨[(0, (.r (.at (.sl 23 x1 x2)))), (3, (.r (.at (.fn 87)))), (10, (.r (.at (.int .i64 (w64 (x4 - x3)))))), (11, (.r (.at (.ptr 25 0 0)))), (12, (.r (.at (.int .i64 (w64 (x3 + (w64 ((w64 (Int.tdiv (w64 (x4 - x3)) 4)) * 1)))))))), (13, (.r (.at (.int .i64 (w64 (x3 + (w64 ((w64 (Int.tdiv (w64 (x4 - x3)) 4)) * 2)))))))), (14, (.r (.at (.int .i64 (w64 (x3 + (w64 ((w64 (Int.tdiv (w64 (x4 - x3)) 4)) * 3)))))))), (34, (.r (.at (.bool (decide ((w64 (x4 - x3)) ≥ 8))))))], [(23, (.gr (.int .i64) 3 x5 true)), (25, (.var [.cell (.int .i64 0)]))]⟩
noncomputable def f110_p0_x : (Int × Int) → GExit := fun (y0, y1) => .normal
noncomputable def f110_p0_s (x1 : Nat) (x2 : Nat) (x4 : Int) (x3 : Int) (x5 : List Int) : (Int × Int) → GS := fun (y0, y1) => ⟨[(11, (.r (.at (.ptr 25 0 0)))), (13, (.r (.at (.int .i64 y0))))], [(23, (.gr (.int .i64) 3 x5 true)), (25, (.var [.cell (.int .i64 y1)]))]⟩
def f110_p0_P (x1 : Nat) (x2 : Nat) (x4 : Int) (x3 : Int) (x5 : List Int) (r : Int × Int) : Prop := Ex cx f110_M 63 (part Try.f110 0) (f110_p0_H x1 x2 x4 x3 x5) (f110_p0_x r) (f110_p0_s x1 x2 x4 x3 x5 r)
noncomputable def f110_v : (Int × Int) → G := fun (y0, y1) => (.tup [(.at (.int .i64 y0)), (.at (.int .i64 y1))])
noncomputable def f110_k0 : (Int × Int) → List (Nat × Blk) := fun (y0, y1) => []
noncomputable def f110_k (x1 : Nat) (x2 : Nat) (x3 : Int) (x4 : Int) (x5 : List Int) : (Int × Int) → List (Nat × Blk) := fun (y0, y1) => [(23, (.gr (.int .i64) 3 x5 true))]
noncomputable def f110_A (x1 : Nat) (x2 : Nat) (x3 : Int) (x4 : Int) (x5 : List Int) : List G := [(.r (.at (.sl 23 x1 x2))), (.r (.at (.int .i64 x3))), (.r (.at (.int .i64 x4))), (.r (.at (.fn 87)))]
noncomputable def f110_K (x1 : Nat) (x2 : Nat) (x3 : Int) (x4 : Int) (x5 : List Int) : List (Nat × Blk) := [(23, (.gr (.int .i64) 3 x5 true))]
def f110_C (x1 : Nat) (x2 : Nat) (x3 : Int) (x4 : Int) (x5 : List Int) (r : Int × Int) : Prop := CallOK cx 110 (f110_A x1 x2 x3 x4 x5) (f110_K x1 x2 x3 x4 x5) [] (f110_v r) (f110_k x1 x2 x3 x4 x5 r)

def f112_M : List Nat := []
noncomputable def f112_p5_1_H (x1 : Nat) (x2 : Nat) (x3 : Int) (x4 : Int) (x39 : Int) (x37 : List Int) (x40 : Int) : GS := ⟨[(0, (.r (.at (.sl 23 x1 x2)))), (1, (.r (.at (.int .i64 x3)))), (2, (.r (.at (.int .i64 x4)))), (3, (.r (.at (.fn 87)))), (9, (.r (.at (.int .i64 x40)))), (10, (.r (.at (.int .i64 x39))))], [(23, (.gr (.int .i64) 3 x37 true))]⟩
noncomputable def f112_p5_1_x : Int → GExit := fun y0 => (.exit 2)
noncomputable def f112_p5_1_s (x1 : Nat) (x2 : Nat) (x3 : Int) (x4 : Int) (x39 : Int) (x37 : List Int) : Int → GS := fun y0 => ⟨[(0, (.r (.at (.sl 23 x1 x2)))), (1, (.r (.at (.int .i64 x3)))), (2, (.r (.at (.int .i64 x4)))), (3, (.r (.at (.fn 87)))), (9, (.r (.at (.int .i64 y0)))), (10, (.r (.at (.int .i64 x39))))], [(23, (.gr (.int .i64) 3 x37 true))]⟩
def f112_p5_1_P (x1 : Nat) (x2 : Nat) (x3 : Int) (x4 : Int) (x39 : Int) (x37 : List Int) (x40 : Int) (r : Int) : Prop := Lp cx f112_M 141 (part Try.f112 5) (f112_p5_1_H x1 x2 x3 x4 x39 x37 x40) (f112_p5_1_x r) (f112_p5_1_s x1 x2 x3 x4 x39 x37 r)
noncomputable def f112_p12_1_H (x1 : Nat) (x2 : Nat) (x3 : Int) (x4 : Int) (x44 : Int) (x39 : Int) (x52 : Int) (x51 : List Int) : GS := ⟨[(0, (.r (.at (.sl 23 x1 x2)))), (1, (.r (.at (.int .i64 x3)))), (2, (.r (.at (.int .i64 x4)))), (3, (.r (.at (.fn 87)))), (9, (.r (.at (.int .i64 x44)))), (10, (.r (.at (.int .i64 x39)))), (11, (.r (.at (.int .i64 x52))))], [(23, (.gr (.int .i64) 3 x51 true))]⟩
noncomputable def f112_p12_1_x : (List Int) → GExit := fun y0 => (.exit 4)
noncomputable def f112_p12_1_s (x1 : Nat) (x2 : Nat) (x3 : Int) (x4 : Int) (x44 : Int) (x39 : Int) : (List Int) → GS := fun y0 => ⟨[(0, (.r (.at (.sl 23 x1 x2)))), (1, (.r (.at (.int .i64 x3)))), (2, (.r (.at (.int .i64 x4)))), (3, (.r (.at (.fn 87)))), (9, (.r (.at (.int .i64 x44)))), (10, (.r (.at (.int .i64 x39))))], [(23, (.gr (.int .i64) 3 y0 true))]⟩
def f112_p12_1_P (x1 : Nat) (x2 : Nat) (x3 : Int) (x4 : Int) (x44 : Int) (x39 : Int) (x52 : Int) (x51 : List Int) (r : (List Int)) : Prop := Lp cx f112_M 141 (part Try.f112 12) (f112_p12_1_H x1 x2 x3 x4 x44 x39 x52 x51) (f112_p12_1_x r) (f112_p12_1_s x1 x2 x3 x4 x44 x39 r)
noncomputable def f112_p10_1_H (x1 : Nat) (x2 : Nat) (x3 : Int) (x4 : Int) (x44 : Int) (x39 : Int) (x37 : List Int) (x45 : Int) (x46 : Int) : GS := ⟨[(0, (.r (.at (.sl 23 x1 x2)))), (1, (.r (.at (.int .i64 x3)))), (2, (.r (.at (.int .i64 x4)))), (3, (.r (.at (.fn 87)))), (9, (.r (.at (.int .i64 x44)))), (10, (.r (.at (.int .i64 x39)))), (65, (.r (.at (.bool (decide ((w64 (x44 - x3)) ≥ 2))))))], [(23, (.gr (.int .i64) 3 ((List.set (List.set x37 (x1 + (Int.toNat x44)) x45) (x1 + (Int.toNat (w64 (x44 - 1)))) x46) : List Int) true))]⟩
noncomputable def f112_p10_1_x : (List Int) → GExit := fun y0 => .normal
noncomputable def f112_p10_1_s (x1 : Nat) (x2 : Nat) (x3 : Int) (x4 : Int) (x44 : Int) (x39 : Int) (x37 : List Int) (x45 : Int) (x46 : Int) : (List Int) → GS := fun y0 => ⟨[(0, (.r (.at (.sl 23 x1 x2)))), (1, (.r (.at (.int .i64 x3)))), (2, (.r (.at (.int .i64 x4)))), (3, (.r (.at (.fn 87)))), (9, (.r (.at (.int .i64 x44)))), (10, (.r (.at (.int .i64 x39))))], [(23, (.gr (.int .i64) 3 y0 true))]⟩
def f112_p10_1_P (x1 : Nat) (x2 : Nat) (x3 : Int) (x4 : Int) (x44 : Int) (x39 : Int) (x37 : List Int) (x45 : Int) (x46 : Int) (r : (List Int)) : Prop := Ex cx f112_M 141 (part Try.f112 10) (f112_p10_1_H x1 x2 x3 x4 x44 x39 x37 x45 x46) (f112_p10_1_x r) (f112_p10_1_s x1 x2 x3 x4 x44 x39 x37 x45 x46 r)
noncomputable def f112_p18_1_H (x1 : Nat) (x2 : Nat) (x3 : Int) (x4 : Int) (x44 : Int) (x39 : Int) (x63 : Int) (x62 : List Int) : GS := ⟨[(0, (.r (.at (.sl 23 x1 x2)))), (1, (.r (.at (.int .i64 x3)))), (2, (.r (.at (.int .i64 x4)))), (3, (.r (.at (.fn 87)))), (9, (.r (.at (.int .i64 x44)))), (10, (.r (.at (.int .i64 x39)))), (12, (.r (.at (.int .i64 x63))))], [(23, (.gr (.int .i64) 3 x62 true))]⟩
noncomputable def f112_p18_1_x : (List Int) → GExit := fun y0 => (.exit 6)
noncomputable def f112_p18_1_s (x1 : Nat) (x2 : Nat) (x3 : Int) (x4 : Int) (x44 : Int) (x39 : Int) : (List Int) → GS := fun y0 => ⟨[(0, (.r (.at (.sl 23 x1 x2)))), (1, (.r (.at (.int .i64 x3)))), (2, (.r (.at (.int .i64 x4)))), (3, (.r (.at (.fn 87)))), (9, (.r (.at (.int .i64 x44)))), (10, (.r (.at (.int .i64 x39))))], [(23, (.gr (.int .i64) 3 y0 true))]⟩
def f112_p18_1_P (x1 : Nat) (x2 : Nat) (x3 : Int) (x4 : Int) (x44 : Int) (x39 : Int) (x63 : Int) (x62 : List Int) (r : (List Int)) : Prop := Lp cx f112_M 141 (part Try.f112 18) (f112_p18_1_H x1 x2 x3 x4 x44 x39 x63 x62) (f112_p18_1_x r) (f112_p18_1_s x1 x2 x3 x4 x44 x39 r)
noncomputable def f112_p16_1_H (x1 : Nat) (x2 : Nat) (x3 : Int) (x4 : Int) (x44 : Int) (x39 : Int) (x57 : List Int) : GS := ⟨[(0, (.r (.at (.sl 23 x1 x2)))), (1, (.r (.at (.int .i64 x3)))), (2, (.r (.at (.int .i64 x4)))), (3, (.r (.at (.fn 87)))), (9, (.r (.at (.int .i64 x44)))), (10, (.r (.at (.int .i64 x39)))), (104, (.r (.at (.bool (decide ((w64 (x4 - x44)) ≥ 2))))))], [(23, (.gr (.int .i64) 3 x57 true))]⟩
noncomputable def f112_p16_1_x : (List Int) → GExit := fun y0 => .normal
noncomputable def f112_p16_1_s (x1 : Nat) (x2 : Nat) (x3 : Int) (x4 : Int) (x44 : Int) (x39 : Int) (x57 : List Int) : (List Int) → GS := fun y0 => ⟨[(0, (.r (.at (.sl 23 x1 x2)))), (1, (.r (.at (.int .i64 x3)))), (2, (.r (.at (.int .i64 x4)))), (3, (.r (.at (.fn 87)))), (9, (.r (.at (.int .i64 x44)))), (10, (.r (.at (.int .i64 x39))))], [(23, (.gr (.int .i64) 3 y0 true))]⟩
def f112_p16_1_P (x1 : Nat) (x2 : Nat) (x3 : Int) (x4 : Int) (x44 : Int) (x39 : Int) (x57 : List Int) (r : (List Int)) : Prop := Ex cx f112_M 141 (part Try.f112 16) (f112_p16_1_H x1 x2 x3 x4 x44 x39 x57) (f112_p16_1_x r) (f112_p16_1_s x1 x2 x3 x4 x44 x39 x57 r)
noncomputable def f112_p1_8_H (x1 : Nat) (x2 : Nat) (x3 : Int) (x4 : Int) (x38 : Int) (x39 : Int) (x37 : List Int) : GS := ⟨[(0, (.r (.at (.sl 23 x1 x2)))), (1, (.r (.at (.int .i64 x3)))), (2, (.r (.at (.int .i64 x4)))), (3, (.r (.at (.fn 87)))), (9, (.r (.at (.int .i64 x38)))), (10, (.r (.at (.int .i64 x39))))], [(23, (.gr (.int .i64) 3 x37 true))]⟩
noncomputable def f112_p1_8_x : f112_p1_8_R → GExit := fun
  | .c0 y0 y1 => .ret
  | .c1 y0 => (.exit 0)
noncomputable def f112_p1_8_s (x1 : Nat) (x2 : Nat) (x3 : Int) (x4 : Int) : f112_p1_8_R → GS := fun
  | .c0 y0 y1 => ⟨[(8, (.r (.at (.bool y0))))], [(23, (.gr (.int .i64) 3 y1 true))]⟩
  | .c1 y0 => ⟨[], [(23, (.gr (.int .i64) 3 y0 true))]⟩
def f112_p1_8_P (x1 : Nat) (x2 : Nat) (x3 : Int) (x4 : Int) (x38 : Int) (x39 : Int) (x37 : List Int) (r : f112_p1_8_R) : Prop := Lp cx f112_M 141 (part Try.f112 1) (f112_p1_8_H x1 x2 x3 x4 x38 x39 x37) (f112_p1_8_x r) (f112_p1_8_s x1 x2 x3 x4 r)
noncomputable def f112_v : (Bool × (List Int)) → G := fun (y0, y1) => (.r (.at (.bool y0)))
noncomputable def f112_k0 : (Bool × (List Int)) → List (Nat × Blk) := fun (y0, y1) => [(23, (.gr (.int .i64) 3 y1 true))]
noncomputable def f112_k (x1 : Nat) (x2 : Nat) (x3 : Int) (x4 : Int) (x5 : List Int) : (Bool × (List Int)) → List (Nat × Blk) := fun (y0, y1) => [(23, (.gr (.int .i64) 3 y1 true))]
noncomputable def f112_A (x1 : Nat) (x2 : Nat) (x3 : Int) (x4 : Int) (x5 : List Int) : List G := [(.r (.at (.sl 23 x1 x2))), (.r (.at (.int .i64 x3))), (.r (.at (.int .i64 x4))), (.r (.at (.fn 87)))]
noncomputable def f112_K (x1 : Nat) (x2 : Nat) (x3 : Int) (x4 : Int) (x5 : List Int) : List (Nat × Blk) := [(23, (.gr (.int .i64) 3 x5 true))]
def f112_C (x1 : Nat) (x2 : Nat) (x3 : Int) (x4 : Int) (x5 : List Int) (r : Bool × (List Int)) : Prop := CallOK cx 112 (f112_A x1 x2 x3 x4 x5) (f112_K x1 x2 x3 x4 x5) [] (f112_v r) (f112_k x1 x2 x3 x4 x5 r)

def f114_M : List Nat := []
noncomputable def f114_p1_H (x1 : Nat) (x2 : Nat) (x3 : Int) (x4 : Int) (x6 : List Int) (x7 : Int) (x5 : Int) (x8 : Int) (x9 : Int) : GS := ⟨[(0, (.r (.at (.sl 23 x1 x2)))), (1, (.r (.at (.int .i64 x3)))), (4, (.r (.at (.fn 87)))), (12, (.r (.at (.int .i64 x9)))), (13, (.r (.at (.int .i64 (w64 (x4 - 1))))))], [(23, (.gr (.int .i64) 3 ((List.set (List.set x6 (x1 + (Int.toNat x3)) x7) (x1 + (Int.toNat x5)) x8) : List Int) true))]⟩
noncomputable def f114_p1_x : Int → GExit := fun y0 => (.exit 0)
noncomputable def f114_p1_s (x1 : Nat) (x2 : Nat) (x3 : Int) (x4 : Int) (x6 : List Int) (x7 : Int) (x5 : Int) (x8 : Int) : Int → GS := fun y0 => ⟨[(0, (.r (.at (.sl 23 x1 x2)))), (1, (.r (.at (.int .i64 x3)))), (4, (.r (.at (.fn 87)))), (12, (.r (.at (.int .i64 y0)))), (13, (.r (.at (.int .i64 (w64 (x4 - 1))))))], [(23, (.gr (.int .i64) 3 ((List.set (List.set x6 (x1 + (Int.toNat x3)) x7) (x1 + (Int.toNat x5)) x8) : List Int) true))]⟩
def f114_p1_P (x1 : Nat) (x2 : Nat) (x3 : Int) (x4 : Int) (x6 : List Int) (x7 : Int) (x5 : Int) (x8 : Int) (x9 : Int) (r : Int) : Prop := Lp cx f114_M 178 (part Try.f114 1) (f114_p1_H x1 x2 x3 x4 x6 x7 x5 x8 x9) (f114_p1_x r) (f114_p1_s x1 x2 x3 x4 x6 x7 x5 x8 r)
noncomputable def f114_p5_H (x1 : Nat) (x2 : Nat) (x3 : Int) (x13 : Int) (x6 : List Int) (x7 : Int) (x5 : Int) (x8 : Int) (x14 : Int) : GS := ⟨[(0, (.r (.at (.sl 23 x1 x2)))), (1, (.r (.at (.int .i64 x3)))), (4, (.r (.at (.fn 87)))), (12, (.r (.at (.int .i64 x13)))), (13, (.r (.at (.int .i64 x14))))], [(23, (.gr (.int .i64) 3 ((List.set (List.set x6 (x1 + (Int.toNat x3)) x7) (x1 + (Int.toNat x5)) x8) : List Int) true))]⟩
noncomputable def f114_p5_x : Int → GExit := fun y0 => (.exit 2)
noncomputable def f114_p5_s (x1 : Nat) (x2 : Nat) (x3 : Int) (x13 : Int) (x6 : List Int) (x7 : Int) (x5 : Int) (x8 : Int) : Int → GS := fun y0 => ⟨[(0, (.r (.at (.sl 23 x1 x2)))), (1, (.r (.at (.int .i64 x3)))), (4, (.r (.at (.fn 87)))), (12, (.r (.at (.int .i64 x13)))), (13, (.r (.at (.int .i64 y0))))], [(23, (.gr (.int .i64) 3 ((List.set (List.set x6 (x1 + (Int.toNat x3)) x7) (x1 + (Int.toNat x5)) x8) : List Int) true))]⟩
def f114_p5_P (x1 : Nat) (x2 : Nat) (x3 : Int) (x13 : Int) (x6 : List Int) (x7 : Int) (x5 : Int) (x8 : Int) (x14 : Int) (r : Int) : Prop := Lp cx f114_M 178 (part Try.f114 5) (f114_p5_H x1 x2 x3 x13 x6 x7 x5 x8 x14) (f114_p5_x r) (f114_p5_s x1 x2 x3 x13 x6 x7 x5 x8 r)
noncomputable def f114_p13_1_H (x1 : Nat) (x2 : Nat) (x3 : Int) (x39 : Int) (x37 : List Int) (x40 : Int) : GS := ⟨[(0, (.r (.at (.sl 23 x1 x2)))), (1, (.r (.at (.int .i64 x3)))), (4, (.r (.at (.fn 87)))), (12, (.r (.at (.int .i64 x40)))), (13, (.r (.at (.int .i64 x39))))], [(23, (.gr (.int .i64) 3 x37 true))]⟩
noncomputable def f114_p13_1_x : Int → GExit := fun y0 => (.exit 6)
noncomputable def f114_p13_1_s (x1 : Nat) (x2 : Nat) (x3 : Int) (x39 : Int) (x37 : List Int) : Int → GS := fun y0 => ⟨[(0, (.r (.at (.sl 23 x1 x2)))), (1, (.r (.at (.int .i64 x3)))), (4, (.r (.at (.fn 87)))), (12, (.r (.at (.int .i64 y0)))), (13, (.r (.at (.int .i64 x39))))], [(23, (.gr (.int .i64) 3 x37 true))]⟩
def f114_p13_1_P (x1 : Nat) (x2 : Nat) (x3 : Int) (x39 : Int) (x37 : List Int) (x40 : Int) (r : Int) : Prop := Lp cx f114_M 178 (part Try.f114 13) (f114_p13_1_H x1 x2 x3 x39 x37 x40) (f114_p13_1_x r) (f114_p13_1_s x1 x2 x3 x39 x37 r)
noncomputable def f114_p17_1_H (x1 : Nat) (x2 : Nat) (x3 : Int) (x44 : Int) (x37 : List Int) (x45 : Int) : GS := ⟨[(0, (.r (.at (.sl 23 x1 x2)))), (1, (.r (.at (.int .i64 x3)))), (4, (.r (.at (.fn 87)))), (12, (.r (.at (.int .i64 x44)))), (13, (.r (.at (.int .i64 x45))))], [(23, (.gr (.int .i64) 3 x37 true))]⟩
noncomputable def f114_p17_1_x : Int → GExit := fun y0 => (.exit 8)
noncomputable def f114_p17_1_s (x1 : Nat) (x2 : Nat) (x3 : Int) (x44 : Int) (x37 : List Int) : Int → GS := fun y0 => ⟨[(0, (.r (.at (.sl 23 x1 x2)))), (1, (.r (.at (.int .i64 x3)))), (4, (.r (.at (.fn 87)))), (12, (.r (.at (.int .i64 x44)))), (13, (.r (.at (.int .i64 y0))))], [(23, (.gr (.int .i64) 3 x37 true))]⟩
def f114_p17_1_P (x1 : Nat) (x2 : Nat) (x3 : Int) (x44 : Int) (x37 : List Int) (x45 : Int) (r : Int) : Prop := Lp cx f114_M 178 (part Try.f114 17) (f114_p17_1_H x1 x2 x3 x44 x37 x45) (f114_p17_1_x r) (f114_p17_1_s x1 x2 x3 x44 x37 r)
noncomputable def f114_p10_H (x1 : Nat) (x2 : Nat) (x3 : Int) (x38 : Int) (x39 : Int) (x37 : List Int) : GS := ⟨[(0, (.r (.at (.sl 23 x1 x2)))), (1, (.r (.at (.int .i64 x3)))), (4, (.r (.at (.fn 87)))), (12, (.r (.at (.int .i64 x38)))), (13, (.r (.at (.int .i64 x39))))], [(23, (.gr (.int .i64) 3 x37 true))]⟩
noncomputable def f114_p10_x : (Int × (List Int)) → GExit := fun (y0, y1) => (.exit 4)
noncomputable def f114_p10_s (x1 : Nat) (x2 : Nat) (x3 : Int) : (Int × (List Int)) → GS := fun (y0, y1) => ⟨[(0, (.r (.at (.sl 23 x1 x2)))), (1, (.r (.at (.int .i64 x3)))), (13, (.r (.at (.int .i64 y0))))], [(23, (.gr (.int .i64) 3 y1 true))]⟩
def f114_p10_P (x1 : Nat) (x2 : Nat) (x3 : Int) (x38 : Int) (x39 : Int) (x37 : List Int) (r : Int × (List Int)) : Prop := Lp cx f114_M 178 (part Try.f114 10) (f114_p10_H x1 x2 x3 x38 x39 x37) (f114_p10_x r) (f114_p10_s x1 x2 x3 r)
noncomputable def f114_v : (Int × Bool × (List Int)) → G := fun (y0, y1, y2) => (.tup [(.at (.int .i64 y0)), (.at (.bool y1))])
noncomputable def f114_k0 : (Int × Bool × (List Int)) → List (Nat × Blk) := fun (y0, y1, y2) => [(23, (.gr (.int .i64) 3 y2 true))]
noncomputable def f114_k (x1 : Nat) (x2 : Nat) (x3 : Int) (x4 : Int) (x5 : Int) (x6 : List Int) : (Int × Bool × (List Int)) → List (Nat × Blk) := fun (y0, y1, y2) => [(23, (.gr (.int .i64) 3 y2 true))]
noncomputable def f114_A (x1 : Nat) (x2 : Nat) (x3 : Int) (x4 : Int) (x5 : Int) (x6 : List Int) : List G := [(.r (.at (.sl 23 x1 x2))), (.r (.at (.int .i64 x3))), (.r (.at (.int .i64 x4))), (.r (.at (.int .i64 x5))), (.r (.at (.fn 87)))]
noncomputable def f114_K (x1 : Nat) (x2 : Nat) (x3 : Int) (x4 : Int) (x5 : Int) (x6 : List Int) : List (Nat × Blk) := [(23, (.gr (.int .i64) 3 x6 true))]
def f114_C (x1 : Nat) (x2 : Nat) (x3 : Int) (x4 : Int) (x5 : Int) (x6 : List Int) (r : Int × Bool × (List Int)) : Prop := CallOK cx 114 (f114_A x1 x2 x3 x4 x5 x6) (f114_K x1 x2 x3 x4 x5 x6) [] (f114_v r) (f114_k x1 x2 x3 x4 x5 x6 r)

def f113_M : List Nat := []
noncomputable def f113_p4_1_H (x1 : Nat) (x2 : Nat) (x3 : Int) (x25 : Int) (x23 : List Int) (x26 : Int) : GS := ⟨[(0, (.r (.at (.sl 23 x1 x2)))), (1, (.r (.at (.int .i64 x3)))), (4, (.r (.at (.fn 87)))), (11, (.r (.at (.int .i64 x26)))), (12, (.r (.at (.int .i64 x25))))], [(23, (.gr (.int .i64) 3 x23 true))]⟩
noncomputable def f113_p4_1_x : Int → GExit := fun y0 => (.exit 2)
noncomputable def f113_p4_1_s (x1 : Nat) (x2 : Nat) (x3 : Int) (x25 : Int) (x23 : List Int) : Int → GS := fun y0 => ⟨[(0, (.r (.at (.sl 23 x1 x2)))), (1, (.r (.at (.int .i64 x3)))), (4, (.r (.at (.fn 87)))), (11, (.r (.at (.int .i64 y0)))), (12, (.r (.at (.int .i64 x25))))], [(23, (.gr (.int .i64) 3 x23 true))]⟩
def f113_p4_1_P (x1 : Nat) (x2 : Nat) (x3 : Int) (x25 : Int) (x23 : List Int) (x26 : Int) (r : Int) : Prop := Lp cx f113_M 90 (part Try.f113 4) (f113_p4_1_H x1 x2 x3 x25 x23 x26) (f113_p4_1_x r) (f113_p4_1_s x1 x2 x3 x25 x23 r)
noncomputable def f113_p8_1_H (x1 : Nat) (x2 : Nat) (x3 : Int) (x30 : Int) (x23 : List Int) (x31 : Int) : GS := ⟨[(0, (.r (.at (.sl 23 x1 x2)))), (1, (.r (.at (.int .i64 x3)))), (4, (.r (.at (.fn 87)))), (11, (.r (.at (.int .i64 x30)))), (12, (.r (.at (.int .i64 x31))))], [(23, (.gr (.int .i64) 3 x23 true))]⟩
noncomputable def f113_p8_1_x : Int → GExit := fun y0 => (.exit 4)
noncomputable def f113_p8_1_s (x1 : Nat) (x2 : Nat) (x3 : Int) (x30 : Int) (x23 : List Int) : Int → GS := fun y0 => ⟨[(0, (.r (.at (.sl 23 x1 x2)))), (1, (.r (.at (.int .i64 x3)))), (4, (.r (.at (.fn 87)))), (11, (.r (.at (.int .i64 x30)))), (12, (.r (.at (.int .i64 y0))))], [(23, (.gr (.int .i64) 3 x23 true))]⟩
def f113_p8_1_P (x1 : Nat) (x2 : Nat) (x3 : Int) (x30 : Int) (x23 : List Int) (x31 : Int) (r : Int) : Prop := Lp cx f113_M 90 (part Try.f113 8) (f113_p8_1_H x1 x2 x3 x30 x23 x31) (f113_p8_1_x r) (f113_p8_1_s x1 x2 x3 x30 x23 r)
noncomputable def f113_p1_H (x1 : Nat) (x2 : Nat) (x3 : Int) (x24 : Int) (x25 : Int) (x23 : List Int) : GS := ⟨[(0, (.r (.at (.sl 23 x1 x2)))), (1, (.r (.at (.int .i64 x3)))), (4, (.r (.at (.fn 87)))), (11, (.r (.at (.int .i64 x24)))), (12, (.r (.at (.int .i64 x25))))], [(23, (.gr (.int .i64) 3 x23 true))]⟩
noncomputable def f113_p1_x : (Int × (List Int)) → GExit := fun (y0, y1) => (.exit 0)
noncomputable def f113_p1_s (x1 : Nat) (x2 : Nat) (x3 : Int) : (Int × (List Int)) → GS := fun (y0, y1) => ⟨[(11, (.r (.at (.int .i64 y0))))], [(23, (.gr (.int .i64) 3 y1 true))]⟩
def f113_p1_P (x1 : Nat) (x2 : Nat) (x3 : Int) (x24 : Int) (x25 : Int) (x23 : List Int) (r : Int × (List Int)) : Prop := Lp cx f113_M 90 (part Try.f113 1) (f113_p1_H x1 x2 x3 x24 x25 x23) (f113_p1_x r) (f113_p1_s x1 x2 x3 r)
noncomputable def f113_v : (Int × (List Int)) → G := fun (y0, y1) => (.r (.at (.int .i64 y0)))
noncomputable def f113_k0 : (Int × (List Int)) → List (Nat × Blk) := fun (y0, y1) => [(23, (.gr (.int .i64) 3 y1 true))]
noncomputable def f113_k (x1 : Nat) (x2 : Nat) (x3 : Int) (x4 : Int) (x5 : Int) (x6 : List Int) : (Int × (List Int)) → List (Nat × Blk) := fun (y0, y1) => [(23, (.gr (.int .i64) 3 y1 true))]
noncomputable def f113_A (x1 : Nat) (x2 : Nat) (x3 : Int) (x4 : Int) (x5 : Int) (x6 : List Int) : List G := [(.r (.at (.sl 23 x1 x2))), (.r (.at (.int .i64 x3))), (.r (.at (.int .i64 x4))), (.r (.at (.int .i64 x5))), (.r (.at (.fn 87)))]
noncomputable def f113_K (x1 : Nat) (x2 : Nat) (x3 : Int) (x4 : Int) (x5 : Int) (x6 : List Int) : List (Nat × Blk) := [(23, (.gr (.int .i64) 3 x6 true))]
def f113_C (x1 : Nat) (x2 : Nat) (x3 : Int) (x4 : Int) (x5 : Int) (x6 : List Int) (r : Int × (List Int)) : Prop := CallOK cx 113 (f113_A x1 x2 x3 x4 x5 x6) (f113_K x1 x2 x3 x4 x5 x6) [] (f113_v r) (f113_k x1 x2 x3 x4 x5 x6 r)

def f93_M : List Nat := []
noncomputable def f93_p5_1_H (x1 : Nat) (x2 : Nat) (x35 : Int) (x36 : Int) (x37 : Int) (x38 : Bool) (x39 : Bool) (x34 : List Int) : GS := ⟨[(0, (.r (.at (.sl 23 x1 x2)))), (1, (.r (.at (.int .i64 x35)))), (2, (.r (.at (.int .i64 x36)))), (3, (.r (.at (.int .i64 x37)))), (4, (.r (.at (.fn 87)))), (10, (.r (.at (.bool x38)))), (11, (.r (.at (.bool x39)))), (12, (.r (.at (.int .i64 (w64 (x36 - x35)))))), (39, (.r (.at (.bool (!x38)))))], [(23, (.gr (.int .i64) 3 x34 true))]⟩
noncomputable def f93_p5_1_x : (Int × (List Int)) → GExit := fun (y0, y1) => .normal
noncomputable def f93_p5_1_s (x1 : Nat) (x2 : Nat) (x35 : Int) (x36 : Int) (x37 : Int) (x38 : Bool) (x39 : Bool) (x34 : List Int) : (Int × (List Int)) → GS := fun (y0, y1) => ⟨[(0, (.r (.at (.sl 23 x1 x2)))), (1, (.r (.at (.int .i64 x35)))), (2, (.r (.at (.int .i64 x36)))), (3, (.r (.at (.int .i64 y0)))), (4, (.r (.at (.fn 87)))), (10, (.r (.at (.bool x38)))), (11, (.r (.at (.bool x39)))), (12, (.r (.at (.int .i64 (w64 (x36 - x35))))))], [(23, (.gr (.int .i64) 3 y1 true))]⟩
def f93_p5_1_P (x1 : Nat) (x2 : Nat) (x35 : Int) (x36 : Int) (x37 : Int) (x38 : Bool) (x39 : Bool) (x34 : List Int) (r : Int × (List Int)) : Prop := Ex cx f93_M 148 (part Try.f93 5) (f93_p5_1_H x1 x2 x35 x36 x37 x38 x39 x34) (f93_p5_1_x r) (f93_p5_1_s x1 x2 x35 x36 x37 x38 x39 x34 r)
noncomputable def f93_p6_1_H (x1 : Nat) (x2 : Nat) (x35 : Int) (x36 : Int) (x42 : Int) (x38 : Bool) (x39 : Bool) (x44 : Int) (x45 : Int) (x43 : List Int) : GS := ⟨[(0, (.r (.at (.sl 23 x1 x2)))), (1, (.r (.at (.int .i64 x35)))), (2, (.r (.at (.int .i64 x36)))), (3, (.r (.at (.int .i64 x42)))), (4, (.r (.at (.fn 87)))), (10, (.r (.at (.bool x38)))), (11, (.r (.at (.bool x39)))), (12, (.r (.at (.int .i64 (w64 (x36 - x35)))))), (13, (.r (.at (.int .i64 x44)))), (14, (.r (.at (.int .i64 x45)))), (56, (.r (.at (.bool (x45 == 2)))))], [(23, (.gr (.int .i64) 3 x43 true))]⟩
noncomputable def f93_p6_1_x : Unit → GExit := fun _ => .normal
noncomputable def f93_p6_1_s (x1 : Nat) (x2 : Nat) (x35 : Int) (x36 : Int) (x42 : Int) (x38 : Bool) (x39 : Bool) (x44 : Int) (x45 : Int) (x43 : List Int) : Unit → GS := fun _ => ⟨[(0, (.r (.at (.sl 23 x1 x2)))), (1, (.r (.at (.int .i64 x35)))), (2, (.r (.at (.int .i64 x36)))), (3, (.r (.at (.int .i64 x42)))), (4, (.r (.at (.fn 87)))), (10, (.r (.at (.bool x38)))), (11, (.r (.at (.bool x39)))), (12, (.r (.at (.int .i64 (w64 (x36 - x35)))))), (13, (.r (.at (.int .i64 x44)))), (14, (.r (.at (.int .i64 x45))))], [(23, (.gr (.int .i64) 3 x43 true))]⟩
def f93_p6_1_P (x1 : Nat) (x2 : Nat) (x35 : Int) (x36 : Int) (x42 : Int) (x38 : Bool) (x39 : Bool) (x44 : Int) (x45 : Int) (x43 : List Int) (r : Unit) : Prop := Ex cx f93_M 148 (part Try.f93 6) (f93_p6_1_H x1 x2 x35 x36 x42 x38 x39 x44 x45 x43) (f93_p6_1_x r) (f93_p6_1_s x1 x2 x35 x36 x42 x38 x39 x44 x45 x43 r)
noncomputable def f93_p7_1_H (x1 : Nat) (x2 : Nat) (x35 : Int) (x36 : Int) (x42 : Int) (x38 : Bool) (x39 : Bool) (x44 : Int) (x45 : Int) (x43 : List Int) : GS := ⟨[(0, (.r (.at (.sl 23 x1 x2)))), (1, (.r (.at (.int .i64 x35)))), (2, (.r (.at (.int .i64 x36)))), (3, (.r (.at (.int .i64 x42)))), (4, (.r (.at (.fn 87)))), (10, (.r (.at (.bool x38)))), (11, (.r (.at (.bool x39)))), (12, (.r (.at (.int .i64 (w64 (x36 - x35)))))), (13, (.r (.at (.int .i64 x44)))), (75, (.r (.at (.bool (x45 == 1)))))], [(23, (.gr (.int .i64) 3 x43 true))]⟩
noncomputable def f93_p7_1_x : f93_p7_1_R → GExit := fun
  | .c0 y0 => .ret
  | .c1 y0 => .normal
noncomputable def f93_p7_1_s (x1 : Nat) (x2 : Nat) (x35 : Int) (x36 : Int) (x42 : Int) (x38 : Bool) (x39 : Bool) (x44 : Int) (x45 : Int) (x43 : List Int) : f93_p7_1_R → GS := fun
  | .c0 y0 => ⟨[], [(23, (.gr (.int .i64) 3 y0 true))]⟩
  | .c1 y0 => ⟨[(0, (.r (.at (.sl 23 x1 x2)))), (1, (.r (.at (.int .i64 x35)))), (2, (.r (.at (.int .i64 x36)))), (3, (.r (.at (.int .i64 x42)))), (4, (.r (.at (.fn 87)))), (10, (.r (.at (.bool x38)))), (11, (.r (.at (.bool x39)))), (12, (.r (.at (.int .i64 (w64 (x36 - x35)))))), (13, (.r (.at (.int .i64 x44))))], [(23, (.gr (.int .i64) 3 y0 true))]⟩
def f93_p7_1_P (x1 : Nat) (x2 : Nat) (x35 : Int) (x36 : Int) (x42 : Int) (x38 : Bool) (x39 : Bool) (x44 : Int) (x45 : Int) (x43 : List Int) (r : f93_p7_1_R) : Prop := Ex cx f93_M 148 (part Try.f93 7) (f93_p7_1_H x1 x2 x35 x36 x42 x38 x39 x44 x45 x43) (f93_p7_1_x r) (f93_p7_1_s x1 x2 x35 x36 x42 x38 x39 x44 x45 x43 r)
noncomputable def f93_p10_1_H (x1 : Nat) (x2 : Nat) (x35 : Int) (x36 : Int) (x42 : Int) (x54 : Bool) (x53 : Int) (x55 : List Int) : GS := ⟨[(0, (.r (.at (.sl 23 x1 x2)))), (1, (.r (.at (.int .i64 x35)))), (2, (.r (.at (.int .i64 x36)))), (3, (.r (.at (.int .i64 x42)))), (4, (.r (.at (.fn 87)))), (11, (.r (.at (.bool x54)))), (16, (.r (.at (.int .i64 x53)))), (18, (.r (.at (.int .i64 (w64 (x53 - x35)))))), (19, (.r (.at (.int .i64 (w64 (x36 - x53)))))), (20, (.r (.at (.int .i64 (w64 (Int.tdiv (w64 (x36 - x35)) 8)))))), (125, (.r (.at (.bool (decide ((w64 (x53 - x35)) < (w64 (x36 - x53))))))))], [(23, (.gr (.int .i64) 3 x55 true))]⟩
noncomputable def f93_p10_1_x : (Int × Int × Bool × (List Int)) → GExit := fun (y0, y1, y2, y3) => .normal
noncomputable def f93_p10_1_s (x1 : Nat) (x2 : Nat) (x35 : Int) (x36 : Int) (x42 : Int) (x54 : Bool) (x53 : Int) (x55 : List Int) : (Int × Int × Bool × (List Int)) → GS := fun (y0, y1, y2, y3) => ⟨[(0, (.r (.at (.sl 23 x1 x2)))), (1, (.r (.at (.int .i64 y0)))), (2, (.r (.at (.int .i64 y1)))), (3, (.r (.at (.int .i64 x42)))), (4, (.r (.at (.fn 87)))), (10, (.r (.at (.bool y2)))), (11, (.r (.at (.bool x54))))], [(23, (.gr (.int .i64) 3 y3 true))]⟩
def f93_p10_1_P (x1 : Nat) (x2 : Nat) (x35 : Int) (x36 : Int) (x42 : Int) (x54 : Bool) (x53 : Int) (x55 : List Int) (r : Int × Int × Bool × (List Int)) : Prop := Ex cx f93_M 148 (part Try.f93 10) (f93_p10_1_H x1 x2 x35 x36 x42 x54 x53 x55) (f93_p10_1_x r) (f93_p10_1_s x1 x2 x35 x36 x42 x54 x53 x55 r)
noncomputable def f93_p10_2_H (x1 : Nat) (x2 : Nat) (x35 : Int) (x36 : Int) (x42 : Int) (x65 : Bool) (x64 : Int) (x66 : List Int) : GS := ⟨[(0, (.r (.at (.sl 23 x1 x2)))), (1, (.r (.at (.int .i64 x35)))), (2, (.r (.at (.int .i64 x36)))), (3, (.r (.at (.int .i64 x42)))), (4, (.r (.at (.fn 87)))), (11, (.r (.at (.bool x65)))), (16, (.r (.at (.int .i64 x64)))), (18, (.r (.at (.int .i64 (w64 (x64 - x35)))))), (19, (.r (.at (.int .i64 (w64 (x36 - x64)))))), (20, (.r (.at (.int .i64 (w64 (Int.tdiv (w64 (x36 - x35)) 8)))))), (125, (.r (.at (.bool (decide ((w64 (x64 - x35)) < (w64 (x36 - x64))))))))], [(23, (.gr (.int .i64) 3 x66 true))]⟩
noncomputable def f93_p10_2_x : (Int × Int × Bool × (List Int)) → GExit := fun (y0, y1, y2, y3) => .normal
noncomputable def f93_p10_2_s (x1 : Nat) (x2 : Nat) (x35 : Int) (x36 : Int) (x42 : Int) (x65 : Bool) (x64 : Int) (x66 : List Int) : (Int × Int × Bool × (List Int)) → GS := fun (y0, y1, y2, y3) => ⟨[(0, (.r (.at (.sl 23 x1 x2)))), (1, (.r (.at (.int .i64 y0)))), (2, (.r (.at (.int .i64 y1)))), (3, (.r (.at (.int .i64 x42)))), (4, (.r (.at (.fn 87)))), (10, (.r (.at (.bool y2)))), (11, (.r (.at (.bool x65))))], [(23, (.gr (.int .i64) 3 y3 true))]⟩
def f93_p10_2_P (x1 : Nat) (x2 : Nat) (x35 : Int) (x36 : Int) (x42 : Int) (x65 : Bool) (x64 : Int) (x66 : List Int) (r : Int × Int × Bool × (List Int)) : Prop := Ex cx f93_M 148 (part Try.f93 10) (f93_p10_2_H x1 x2 x35 x36 x42 x65 x64 x66) (f93_p10_2_x r) (f93_p10_2_s x1 x2 x35 x36 x42 x65 x64 x66 r)
noncomputable def f93_p10_3_H (x1 : Nat) (x2 : Nat) (x35 : Int) (x36 : Int) (x42 : Int) (x77 : Bool) (x76 : Int) (x78 : List Int) : GS := ⟨[(0, (.r (.at (.sl 23 x1 x2)))), (1, (.r (.at (.int .i64 x35)))), (2, (.r (.at (.int .i64 x36)))), (3, (.r (.at (.int .i64 x42)))), (4, (.r (.at (.fn 87)))), (11, (.r (.at (.bool x77)))), (16, (.r (.at (.int .i64 x76)))), (18, (.r (.at (.int .i64 (w64 (x76 - x35)))))), (19, (.r (.at (.int .i64 (w64 (x36 - x76)))))), (20, (.r (.at (.int .i64 (w64 (Int.tdiv (w64 (x36 - x35)) 8)))))), (125, (.r (.at (.bool (decide ((w64 (x76 - x35)) < (w64 (x36 - x76))))))))], [(23, (.gr (.int .i64) 3 x78 true))]⟩
noncomputable def f93_p10_3_x : (Int × Int × Bool × (List Int)) → GExit := fun (y0, y1, y2, y3) => .normal
noncomputable def f93_p10_3_s (x1 : Nat) (x2 : Nat) (x35 : Int) (x36 : Int) (x42 : Int) (x77 : Bool) (x76 : Int) (x78 : List Int) : (Int × Int × Bool × (List Int)) → GS := fun (y0, y1, y2, y3) => ⟨[(0, (.r (.at (.sl 23 x1 x2)))), (1, (.r (.at (.int .i64 y0)))), (2, (.r (.at (.int .i64 y1)))), (3, (.r (.at (.int .i64 x42)))), (4, (.r (.at (.fn 87)))), (10, (.r (.at (.bool y2)))), (11, (.r (.at (.bool x77))))], [(23, (.gr (.int .i64) 3 y3 true))]⟩
def f93_p10_3_P (x1 : Nat) (x2 : Nat) (x35 : Int) (x36 : Int) (x42 : Int) (x77 : Bool) (x76 : Int) (x78 : List Int) (r : Int × Int × Bool × (List Int)) : Prop := Ex cx f93_M 148 (part Try.f93 10) (f93_p10_3_H x1 x2 x35 x36 x42 x77 x76 x78) (f93_p10_3_x r) (f93_p10_3_s x1 x2 x35 x36 x42 x77 x76 x78 r)
noncomputable def f93_p10_4_H (x1 : Nat) (x2 : Nat) (x35 : Int) (x36 : Int) (x42 : Int) (x88 : Bool) (x87 : Int) (x89 : List Int) : GS := ⟨[(0, (.r (.at (.sl 23 x1 x2)))), (1, (.r (.at (.int .i64 x35)))), (2, (.r (.at (.int .i64 x36)))), (3, (.r (.at (.int .i64 x42)))), (4, (.r (.at (.fn 87)))), (11, (.r (.at (.bool x88)))), (16, (.r (.at (.int .i64 x87)))), (18, (.r (.at (.int .i64 (w64 (x87 - x35)))))), (19, (.r (.at (.int .i64 (w64 (x36 - x87)))))), (20, (.r (.at (.int .i64 (w64 (Int.tdiv (w64 (x36 - x35)) 8)))))), (125, (.r (.at (.bool (decide ((w64 (x87 - x35)) < (w64 (x36 - x87))))))))], [(23, (.gr (.int .i64) 3 x89 true))]⟩
noncomputable def f93_p10_4_x : (Int × Int × Bool × (List Int)) → GExit := fun (y0, y1, y2, y3) => .normal
noncomputable def f93_p10_4_s (x1 : Nat) (x2 : Nat) (x35 : Int) (x36 : Int) (x42 : Int) (x88 : Bool) (x87 : Int) (x89 : List Int) : (Int × Int × Bool × (List Int)) → GS := fun (y0, y1, y2, y3) => ⟨[(0, (.r (.at (.sl 23 x1 x2)))), (1, (.r (.at (.int .i64 y0)))), (2, (.r (.at (.int .i64 y1)))), (3, (.r (.at (.int .i64 x42)))), (4, (.r (.at (.fn 87)))), (10, (.r (.at (.bool y2)))), (11, (.r (.at (.bool x88))))], [(23, (.gr (.int .i64) 3 y3 true))]⟩
def f93_p10_4_P (x1 : Nat) (x2 : Nat) (x35 : Int) (x36 : Int) (x42 : Int) (x88 : Bool) (x87 : Int) (x89 : List Int) (r : Int × Int × Bool × (List Int)) : Prop := Ex cx f93_M 148 (part Try.f93 10) (f93_p10_4_H x1 x2 x35 x36 x42 x88 x87 x89) (f93_p10_4_x r) (f93_p10_4_s x1 x2 x35 x36 x42 x88 x87 x89 r)
noncomputable def f93_p10_5_H (x1 : Nat) (x2 : Nat) (x35 : Int) (x36 : Int) (x42 : Int) (x100 : Bool) (x99 : Int) (x101 : List Int) : GS := ⟨[(0, (.r (.at (.sl 23 x1 x2)))), (1, (.r (.at (.int .i64 x35)))), (2, (.r (.at (.int .i64 x36)))), (3, (.r (.at (.int .i64 x42)))), (4, (.r (.at (.fn 87)))), (11, (.r (.at (.bool x100)))), (16, (.r (.at (.int .i64 x99)))), (18, (.r (.at (.int .i64 (w64 (x99 - x35)))))), (19, (.r (.at (.int .i64 (w64 (x36 - x99)))))), (20, (.r (.at (.int .i64 (w64 (Int.tdiv (w64 (x36 - x35)) 8)))))), (125, (.r (.at (.bool (decide ((w64 (x99 - x35)) < (w64 (x36 - x99))))))))], [(23, (.gr (.int .i64) 3 x101 true))]⟩
noncomputable def f93_p10_5_x : (Int × Int × Bool × (List Int)) → GExit := fun (y0, y1, y2, y3) => .normal
noncomputable def f93_p10_5_s (x1 : Nat) (x2 : Nat) (x35 : Int) (x36 : Int) (x42 : Int) (x100 : Bool) (x99 : Int) (x101 : List Int) : (Int × Int × Bool × (List Int)) → GS := fun (y0, y1, y2, y3) => ⟨[(0, (.r (.at (.sl 23 x1 x2)))), (1, (.r (.at (.int .i64 y0)))), (2, (.r (.at (.int .i64 y1)))), (3, (.r (.at (.int .i64 x42)))), (4, (.r (.at (.fn 87)))), (10, (.r (.at (.bool y2)))), (11, (.r (.at (.bool x100))))], [(23, (.gr (.int .i64) 3 y3 true))]⟩
def f93_p10_5_P (x1 : Nat) (x2 : Nat) (x35 : Int) (x36 : Int) (x42 : Int) (x100 : Bool) (x99 : Int) (x101 : List Int) (r : Int × Int × Bool × (List Int)) : Prop := Ex cx f93_M 148 (part Try.f93 10) (f93_p10_5_H x1 x2 x35 x36 x42 x100 x99 x101) (f93_p10_5_x r) (f93_p10_5_s x1 x2 x35 x36 x42 x100 x99 x101 r)
noncomputable def f93_p10_6_H (x1 : Nat) (x2 : Nat) (x35 : Int) (x36 : Int) (x42 : Int) (x111 : Bool) (x110 : Int) (x112 : List Int) : GS := ⟨[(0, (.r (.at (.sl 23 x1 x2)))), (1, (.r (.at (.int .i64 x35)))), (2, (.r (.at (.int .i64 x36)))), (3, (.r (.at (.int .i64 x42)))), (4, (.r (.at (.fn 87)))), (11, (.r (.at (.bool x111)))), (16, (.r (.at (.int .i64 x110)))), (18, (.r (.at (.int .i64 (w64 (x110 - x35)))))), (19, (.r (.at (.int .i64 (w64 (x36 - x110)))))), (20, (.r (.at (.int .i64 (w64 (Int.tdiv (w64 (x36 - x35)) 8)))))), (125, (.r (.at (.bool (decide ((w64 (x110 - x35)) < (w64 (x36 - x110))))))))], [(23, (.gr (.int .i64) 3 x112 true))]⟩
noncomputable def f93_p10_6_x : (Int × Int × Bool × (List Int)) → GExit := fun (y0, y1, y2, y3) => .normal
noncomputable def f93_p10_6_s (x1 : Nat) (x2 : Nat) (x35 : Int) (x36 : Int) (x42 : Int) (x111 : Bool) (x110 : Int) (x112 : List Int) : (Int × Int × Bool × (List Int)) → GS := fun (y0, y1, y2, y3) => ⟨[(0, (.r (.at (.sl 23 x1 x2)))), (1, (.r (.at (.int .i64 y0)))), (2, (.r (.at (.int .i64 y1)))), (3, (.r (.at (.int .i64 x42)))), (4, (.r (.at (.fn 87)))), (10, (.r (.at (.bool y2)))), (11, (.r (.at (.bool x111))))], [(23, (.gr (.int .i64) 3 y3 true))]⟩
def f93_p10_6_P (x1 : Nat) (x2 : Nat) (x35 : Int) (x36 : Int) (x42 : Int) (x111 : Bool) (x110 : Int) (x112 : List Int) (r : Int × Int × Bool × (List Int)) : Prop := Ex cx f93_M 148 (part Try.f93 10) (f93_p10_6_H x1 x2 x35 x36 x42 x111 x110 x112) (f93_p10_6_x r) (f93_p10_6_s x1 x2 x35 x36 x42 x111 x110 x112 r)
noncomputable def f93_p1_7_H (x1 : Nat) (x2 : Nat) (x35 : Int) (x36 : Int) (x37 : Int) (x38 : Bool) (x39 : Bool) (x34 : List Int) : GS := ⟨[(0, (.r (.at (.sl 23 x1 x2)))), (1, (.r (.at (.int .i64 x35)))), (2, (.r (.at (.int .i64 x36)))), (3, (.r (.at (.int .i64 x37)))), (4, (.r (.at (.fn 87)))), (10, (.r (.at (.bool x38)))), (11, (.r (.at (.bool x39))))], [(23, (.gr (.int .i64) 3 x34 true))]⟩
noncomputable def f93_p1_7_x : (List Int) → GExit := fun y0 => .ret
noncomputable def f93_p1_7_s (x1 : Nat) (x2 : Nat) : (List Int) → GS := fun y0 => ⟨[], [(23, (.gr (.int .i64) 3 y0 true))]⟩
def f93_p1_7_P (x1 : Nat) (x2 : Nat) (x35 : Int) (x36 : Int) (x37 : Int) (x38 : Bool) (x39 : Bool) (x34 : List Int) (r : (List Int)) : Prop := Lp cx f93_M 148 (part Try.f93 1) (f93_p1_7_H x1 x2 x35 x36 x37 x38 x39 x34) (f93_p1_7_x r) (f93_p1_7_s x1 x2 r)
noncomputable def f93_v : (List Int) → G := fun y0 => (.r (.at .unit0))
noncomputable def f93_k0 : (List Int) → List (Nat × Blk) := fun y0 => [(23, (.gr (.int .i64) 3 y0 true))]
noncomputable def f93_k (x1 : Nat) (x2 : Nat) (x3 : Int) (x4 : Int) (x5 : Int) (x6 : List Int) : (List Int) → List (Nat × Blk) := fun y0 => [(23, (.gr (.int .i64) 3 y0 true))]
noncomputable def f93_A (x1 : Nat) (x2 : Nat) (x3 : Int) (x4 : Int) (x5 : Int) (x6 : List Int) : List G := [(.r (.at (.sl 23 x1 x2))), (.r (.at (.int .i64 x3))), (.r (.at (.int .i64 x4))), (.r (.at (.int .i64 x5))), (.r (.at (.fn 87)))]
noncomputable def f93_K (x1 : Nat) (x2 : Nat) (x3 : Int) (x4 : Int) (x5 : Int) (x6 : List Int) : List (Nat × Blk) := [(23, (.gr (.int .i64) 3 x6 true))]
def f93_C (x1 : Nat) (x2 : Nat) (x3 : Int) (x4 : Int) (x5 : Int) (x6 : List Int) (r : (List Int)) : Prop := CallOK cx 93 (f93_A x1 x2 x3 x4 x5 x6) (f93_K x1 x2 x3 x4 x5 x6) [] (f93_v r) (f93_k x1 x2 x3 x4 x5 x6 r)

def f86_M : List Nat := []
noncomputable def f86_v : (List Int) → G := fun y0 => (.r (.at .unit0))
noncomputable def f86_k0 : (List Int) → List (Nat × Blk) := fun y0 => [(23, (.gr (.int .i64) 3 y0 true))]
noncomputable def f86_k (x1 : List Int) : (List Int) → List (Nat × Blk) := fun y0 => [(23, (.gr (.int .i64) 3 y0 true))]
noncomputable def f86_A (x1 : List Int) : List G := [(.r (.at (.sl 23 0 (List.length x1)))), (.r (.at (.fn 87)))]
noncomputable def f86_K (x1 : List Int) : List (Nat × Blk) := [(23, (.gr (.int .i64) 3 x1 true))]
def f86_C (x1 : List Int) (r : (List Int)) : Prop := CallOK cx 86 (f86_A x1) (f86_K x1) [] (f86_v r) (f86_k x1 r)

def f65_M : List Nat := []
noncomputable def f65_v : (Nat × (List Int)) → G := fun (y0, y1) => (.r (.at (.sl 23 0 y0)))
noncomputable def f65_k0 : (Nat × (List Int)) → List (Nat × Blk) := fun (y0, y1) => [(23, (.gr (.int .i64) 3 y1 true))]
noncomputable def f65_k (x1 : List Int) : (Nat × (List Int)) → List (Nat × Blk) := fun (y0, y1) => [(23, (.gr (.int .i64) 3 y1 true))]
noncomputable def f65_A (x1 : List Int) : List G := [(.r (.at (.sl 23 0 (List.length x1))))]
noncomputable def f65_K (x1 : List Int) : List (Nat × Blk) := [(23, (.gr (.int .i64) 3 x1 true))]
def f65_C (x1 : List Int) (r : Nat × (List Int)) : Prop := CallOK cx 65 (f65_A x1) (f65_K x1) [] (f65_v r) (f65_k x1 r)

def f27_M : List Nat := [22, 23]
noncomputable def f27_p4_H (x1 : List Int) (x7 : Int) (x8 : List Int) : GS := ⟨[(5, (.r (.at (.ptr 22 0 0)))), (21, (.r (.at (.lst (.int .i64) x1 false)))), (22, (.r (.at (.int .i64 ((List.length x1 : Nat) : Int))))), (23, (.r (.at (.int .i64 x7))))], [(22, (.var [.arr (.int .i64) 31 x8]))]⟩
noncomputable def f27_p4_x : (List Int) → GExit := fun y0 => (.exit 1)
noncomputable def f27_p4_s (x1 : List Int) : (List Int) → GS := fun y0 => ⟨[(5, (.r (.at (.ptr 22 0 0))))], [(22, (.var [.arr (.int .i64) 31 y0]))]⟩
def f27_p4_P (x1 : List Int) (x7 : Int) (x8 : List Int) (r : (List Int)) : Prop := Lp cx f27_M 57 (part Try.f27 4) (f27_p4_H x1 x7 x8) (f27_p4_x r) (f27_p4_s x1 r)
noncomputable def f27_p15_2_H (x22 : List Int) (x21 : Int) (x11 : List Int) (x23 : Int) : GS := ⟨[(8, (.r (.at (.sl 23 0 (List.length x22))))), (9, (.r (.at (.int .i64 x21)))), (10, (.r (.at (.int .i64 ((x11)[(Int.toNat x21)]?.getD 0))))), (11, (.r (.at (.int .i64 x23)))), (34, (.r (.agg [.arr (.int .i64) 31 x11]))), (35, (.r (.at (.int .i64 x21)))), (47, (.r (.at (.bool ((iAnd .i64 ((x11)[(Int.toNat x21)]?.getD 0) x23) != 0)))))], [(23, (.gr (.int .i64) 3 x22 true))]⟩
noncomputable def f27_p15_2_x : (List Int) → GExit := fun y0 => .normal
noncomputable def f27_p15_2_s (x22 : List Int) (x21 : Int) (x11 : List Int) (x23 : Int) : (List Int) → GS := fun y0 => ⟨[(8, (.r (.at (.sl 23 0 (List.length y0))))), (9, (.r (.at (.int .i64 x21)))), (10, (.r (.at (.int .i64 ((x11)[(Int.toNat x21)]?.getD 0))))), (11, (.r (.at (.int .i64 x23)))), (34, (.r (.agg [.arr (.int .i64) 31 x11]))), (35, (.r (.at (.int .i64 x21))))], [(23, (.gr (.int .i64) 3 y0 true))]⟩
def f27_p15_2_P (x22 : List Int) (x21 : Int) (x11 : List Int) (x23 : Int) (r : (List Int)) : Prop := Ex cx f27_M 57 (part Try.f27 15) (f27_p15_2_H x22 x21 x11 x23) (f27_p15_2_x r) (f27_p15_2_s x22 x21 x11 x23 r)
noncomputable def f27_p12_1_H (x21 : Int) (x11 : List Int) (x23 : Int) (x22 : List Int) : GS := ⟨[(8, (.r (.at (.sl 23 0 (List.length x22))))), (9, (.r (.at (.int .i64 x21)))), (10, (.r (.at (.int .i64 ((x11)[(Int.toNat x21)]?.getD 0))))), (11, (.r (.at (.int .i64 x23)))), (34, (.r (.agg [.arr (.int .i64) 31 x11]))), (35, (.r (.at (.int .i64 x21))))], [(23, (.gr (.int .i64) 3 x22 true))]⟩
noncomputable def f27_p12_1_x : (List Int) → GExit := fun y0 => (.exit 5)
noncomputable def f27_p12_1_s (x21 : Int) (x11 : List Int) : (List Int) → GS := fun y0 => ⟨[(8, (.r (.at (.sl 23 0 (List.length y0))))), (34, (.r (.agg [.arr (.int .i64) 31 x11]))), (35, (.r (.at (.int .i64 x21))))], [(23, (.gr (.int .i64) 3 y0 true))]⟩
def f27_p12_1_P (x21 : Int) (x11 : List Int) (x23 : Int) (x22 : List Int) (r : (List Int)) : Prop := Lp cx f27_M 57 (part Try.f27 12) (f27_p12_1_H x21 x11 x23 x22) (f27_p12_1_x r) (f27_p12_1_s x21 x11 r)
noncomputable def f27_p8_H (x11 : List Int) (x21 : Int) (x20 : List Int) : GS := ⟨[(8, (.r (.at (.sl 23 0 (List.length x20))))), (34, (.r (.agg [.arr (.int .i64) 31 x11]))), (35, (.r (.at (.int .i64 x21))))], [(23, (.gr (.int .i64) 3 x20 true))]⟩
noncomputable def f27_p8_x : (List Int) → GExit := fun y0 => (.exit 3)
noncomputable def f27_p8_s (x11 : List Int) : (List Int) → GS := fun y0 => ⟨[(8, (.r (.at (.sl 23 0 (List.length y0)))))], [(23, (.gr (.int .i64) 3 y0 true))]⟩
def f27_p8_P (x11 : List Int) (x21 : Int) (x20 : List Int) (r : (List Int)) : Prop := Lp cx f27_M 57 (part Try.f27 8) (f27_p8_H x11 x21 x20) (f27_p8_x r) (f27_p8_s x11 r)
noncomputable def f27_v : ((List Int) × Int) → G := fun (y0, y1) => (.tup [(.at (.lst (.int .i64) y0 false)), (.at (.int .i64 y1))])
noncomputable def f27_k0 : ((List Int) × Int) → List (Nat × Blk) := fun (y0, y1) => []
noncomputable def f27_k (x1 : List Int) : ((List Int) × Int) → List (Nat × Blk) := fun (y0, y1) => []
noncomputable def f27_A (x1 : List Int) : List G := [(.r (.at (.lst (.int .i64) x1 false)))]
noncomputable def f27_K (x1 : List Int) : List (Nat × Blk) := []
def f27_C (x1 : List Int) (r : (List Int) × Int) : Prop := CallOK cx 27 (f27_A x1) (f27_K x1) [] (f27_v r) (f27_k x1 r)

def f70_M : List Nat := [26]
noncomputable def f70_v : (List Int) → G := fun y0 => (.r (.at (.sl 26 0 (List.length y0))))
noncomputable def f70_k0 : (List Int) → List (Nat × Blk) := fun y0 => [(26, (.gr (.int .i64) 3 y0 true))]
noncomputable def f70_k (x1 : Option (List Int)) : (List Int) → List (Nat × Blk) := fun y0 => [(26, (.gr (.int .i64) 3 y0 true))]
noncomputable def f70_A (x1 : Option (List Int)) : List G := [(.r (.at (.olst (.int .i64) x1)))]
noncomputable def f70_K (x1 : Option (List Int)) : List (Nat × Blk) := []
def f70_C (x1 : Option (List Int)) (r : (List Int)) : Prop := CallOK cx 70 (f70_A x1) (f70_K x1) [] (f70_v r) (f70_k x1 r)

noncomputable def f70m_v : (List Int) → G := f70_v
noncomputable def f70m_k0 : (List Int) → List (Nat × Blk) := f70_k0
noncomputable def f70m_k (x1 : List Int) : (List Int) → List (Nat × Blk) := f70_k (some x1)
noncomputable def f70m_A (x1 : List Int) : List G := [(.r (.at (.lst (.int .i64) x1 false)))]
noncomputable def f70m_K (x1 : List Int) : List (Nat × Blk) := []
def f70m_C (x1 : List Int) (r : (List Int)) : Prop := CallOK cx 70 (f70m_A x1) (f70m_K x1) [] (f70m_v r) (f70m_k x1 r)

def f89_M : List Nat := []
noncomputable def f89_p10_5_H (x28 : List Int) (x46 : Int) (x29 : Int) (x47 : Int) (x48 : Int) (x49 : Int) (x45 : List Int) : GS := ⟨[(0, (.r (.at (.sl 26 0 (List.length x28))))), (3, (.r (.at (.int .i64 x46)))), (4, (.r (.at (.sl 26 (0 + (Int.toNat x29)) ((List.length x28) - (Int.toNat x29)))))), (5, (.r (.at (.int .i64 x47)))), (44, (.r (.at (.bool (x48 != x49)))))], [(26, (.gr (.int .i64) 3 x45 true))]⟩
noncomputable def f89_p10_5_x : (Int × (List Int)) → GExit := fun (y0, y1) => .normal
noncomputable def f89_p10_5_s (x28 : List Int) (x46 : Int) (x29 : Int) (x47 : Int) (x48 : Int) (x49 : Int) (x45 : List Int) : (Int × (List Int)) → GS := fun (y0, y1) => ⟨[(0, (.r (.at (.sl 26 0 (List.length x28))))), (3, (.r (.at (.int .i64 y0)))), (4, (.r (.at (.sl 26 (0 + (Int.toNat x29)) ((List.length x28) - (Int.toNat x29)))))), (5, (.r (.at (.int .i64 x47))))], [(26, (.gr (.int .i64) 3 y1 true))]⟩
def f89_p10_5_P (x28 : List Int) (x46 : Int) (x29 : Int) (x47 : Int) (x48 : Int) (x49 : Int) (x45 : List Int) (r : Int × (List Int)) : Prop := Ex cx f89_M 61 (part Try.f89 10) (f89_p10_5_H x28 x46 x29 x47 x48 x49 x45) (f89_p10_5_x r) (f89_p10_5_s x28 x46 x29 x47 x48 x49 x45 r)
noncomputable def f89_p7_1_H (x28 : List Int) (x29 : Int) (x46 : Int) (x47 : Int) (x45 : List Int) : GS := ⟨[(0, (.r (.at (.sl 26 0 (List.length x28))))), (3, (.r (.at (.int .i64 x46)))), (4, (.r (.at (.sl 26 (0 + (Int.toNat x29)) ((List.length x28) - (Int.toNat x29)))))), (5, (.r (.at (.int .i64 x47))))], [(26, (.gr (.int .i64) 3 x45 true))]⟩
noncomputable def f89_p7_1_x : (Int × (List Int)) → GExit := fun (y0, y1) => (.exit 2)
noncomputable def f89_p7_1_s (x28 : List Int) (x29 : Int) : (Int × (List Int)) → GS := fun (y0, y1) => ⟨[(0, (.r (.at (.sl 26 0 (List.length x28))))), (3, (.r (.at (.int .i64 y0))))], [(26, (.gr (.int .i64) 3 y1 true))]⟩
def f89_p7_1_P (x28 : List Int) (x29 : Int) (x46 : Int) (x47 : Int) (x45 : List Int) (r : Int × (List Int)) : Prop := Lp cx f89_M 61 (part Try.f89 7) (f89_p7_1_H x28 x29 x46 x47 x45) (f89_p7_1_x r) (f89_p7_1_s x28 x29 r)
noncomputable def f89_p2_H (x29 : Int) (x28 : List Int) : GS := ⟨[(0, (.r (.at (.sl 26 0 (List.length x28))))), (3, (.r (.at (.int .i64 x29))))], [(26, (.gr (.int .i64) 3 x28 true))]⟩
noncomputable def f89_p2_x : f89_p2_R → GExit := fun
  | .c0 y0 y1 => .ret
  | .c1 y0 => (.exit 0)
noncomputable def f89_p2_s : f89_p2_R → GS := fun
  | .c0 y0 y1 => ⟨[(2, (.r (.at (.sl 26 0 y0))))], [(26, (.gr (.int .i64) 3 y1 true))]⟩
  | .c1 y0 => ⟨[(0, (.r (.at (.sl 26 0 (List.length y0)))))], [(26, (.gr (.int .i64) 3 y0 true))]⟩
def f89_p2_P (x29 : Int) (x28 : List Int) (r : f89_p2_R) : Prop := Lp cx f89_M 61 (part Try.f89 2) (f89_p2_H x29 x28) (f89_p2_x r) (f89_p2_s r)
noncomputable def f89_v : f89_R → G := fun
  | .c0 y0 => (.r (.at (.sl 26 0 (List.length y0))))
  | .c1 y0 y1 => (.r (.at (.sl 26 0 y0)))
noncomputable def f89_k0 : f89_R → List (Nat × Blk) := fun
  | .c0 y0 => [(26, (.gr (.int .i64) 3 y0 true))]
  | .c1 y0 y1 => [(26, (.gr (.int .i64) 3 y1 true))]
noncomputable def f89_k (x1 : List Int) : f89_R → List (Nat × Blk) := fun
  | .c0 y0 => [(26, (.gr (.int .i64) 3 y0 true))]
  | .c1 y0 y1 => [(26, (.gr (.int .i64) 3 y1 true))]
noncomputable def f89_A (x1 : List Int) : List G := [(.r (.at (.sl 26 0 (List.length x1))))]
noncomputable def f89_K (x1 : List Int) : List (Nat × Blk) := [(26, (.gr (.int .i64) 3 x1 true))]
def f89_C (x1 : List Int) (r : f89_R) : Prop := CallOK cx 89 (f89_A x1) (f89_K x1) [] (f89_v r) (f89_k x1 r)

def f68_M : List Nat := [26]
noncomputable def f68_v : Bool → G := fun y0 => (.r (.at (.bool y0)))
noncomputable def f68_k0 : Bool → List (Nat × Blk) := fun y0 => []
noncomputable def f68_k (x1 : List Int) : Bool → List (Nat × Blk) := fun y0 => []
noncomputable def f68_A (x1 : List Int) : List G := [(.r (.at (.lst (.int .i64) x1 false)))]
noncomputable def f68_K (x1 : List Int) : List (Nat × Blk) := []
def f68_C (x1 : List Int) (r : Bool) : Prop := CallOK cx 68 (f68_A x1) (f68_K x1) [] (f68_v r) (f68_k x1 r)

def f29_M : List Nat := [23]
noncomputable def f29_p8_1_H (x14 : Int) (x1 : List Int) (x13 : Int) (x16 : Int) (x15 : List Int) : GS := ⟨[(5, (.r (.at (.sl 23 0 (List.length x15))))), (8, (.r (.at (.int .i64 (w64 (Int.tdiv x14 (iAnd .i64 x14 (w64 (0 - x14))))))))), (20, (.r (.at (.lst (.int .i64) x1 false)))), (21, (.r (.at (.int .i64 ((List.length x1 : Nat) : Int))))), (22, (.r (.at (.int .i64 x13)))), (34, (.r (.at (.int .i64 (w64 (Int.tdiv x14 (w64 (Int.tdiv x14 (iAnd .i64 x14 (w64 (0 - x14))))))))))), (35, (.r (.at (.int .i64 x16))))], [(23, (.gr (.int .i64) 3 x15 true))]⟩
noncomputable def f29_p8_1_x : (List Int) → GExit := fun y0 => (.exit 3)
noncomputable def f29_p8_1_s (x14 : Int) (x1 : List Int) (x13 : Int) : (List Int) → GS := fun y0 => ⟨[(5, (.r (.at (.sl 23 0 (List.length y0))))), (20, (.r (.at (.lst (.int .i64) x1 false)))), (21, (.r (.at (.int .i64 ((List.length x1 : Nat) : Int))))), (22, (.r (.at (.int .i64 x13))))], [(23, (.gr (.int .i64) 3 y0 true))]⟩
def f29_p8_1_P (x14 : Int) (x1 : List Int) (x13 : Int) (x16 : Int) (x15 : List Int) (r : (List Int)) : Prop := Lp cx f29_M 45 (part Try.f29 8) (f29_p8_1_H x14 x1 x13 x16 x15) (f29_p8_1_x r) (f29_p8_1_s x14 x1 x13 r)
noncomputable def f29_p4_H (x1 : List Int) (x13 : Int) (x12 : List Int) : GS := ⟨[(5, (.r (.at (.sl 23 0 (List.length x12))))), (20, (.r (.at (.lst (.int .i64) x1 false)))), (21, (.r (.at (.int .i64 ((List.length x1 : Nat) : Int))))), (22, (.r (.at (.int .i64 x13))))], [(23, (.gr (.int .i64) 3 x12 true))]⟩
noncomputable def f29_p4_x : (List Int) → GExit := fun y0 => (.exit 1)
noncomputable def f29_p4_s (x1 : List Int) : (List Int) → GS := fun y0 => ⟨[(5, (.r (.at (.sl 23 0 (List.length y0)))))], [(23, (.gr (.int .i64) 3 y0 true))]⟩
def f29_p4_P (x1 : List Int) (x13 : Int) (x12 : List Int) (r : (List Int)) : Prop := Lp cx f29_M 45 (part Try.f29 4) (f29_p4_H x1 x13 x12) (f29_p4_x r) (f29_p4_s x1 r)
noncomputable def f29_v : ((List Int) × Int) → G := fun (y0, y1) => (.tup [(.at (.lst (.int .i64) y0 false)), (.at (.int .i64 y1))])
noncomputable def f29_k0 : ((List Int) × Int) → List (Nat × Blk) := fun (y0, y1) => []
noncomputable def f29_k (x1 : List Int) : ((List Int) × Int) → List (Nat × Blk) := fun (y0, y1) => []
noncomputable def f29_A (x1 : List Int) : List G := [(.r (.at (.lst (.int .i64) x1 false)))]
noncomputable def f29_K (x1 : List Int) : List (Nat × Blk) := []
def f29_C (x1 : List Int) (r : (List Int) × Int) : Prop := CallOK cx 29 (f29_A x1) (f29_K x1) [] (f29_v r) (f29_k x1 r)

def f70_1_M : List Nat := [27]
noncomputable def f70_1_v : (List Int) → G := fun y0 => (.r (.at (.sl 27 0 (List.length y0))))
noncomputable def f70_1_k0 : (List Int) → List (Nat × Blk) := fun y0 => [(27, (.gr (.int .i64) 3 y0 true))]
noncomputable def f70_1_k (x1 : Option (List Int)) : (List Int) → List (Nat × Blk) := fun y0 => [(27, (.gr (.int .i64) 3 y0 true))]
noncomputable def f70_1_A (x1 : Option (List Int)) : List G := [(.r (.at (.olst (.int .i64) x1)))]
noncomputable def f70_1_K (x1 : Option (List Int)) : List (Nat × Blk) := []
def f70_1_C (x1 : Option (List Int)) (r : (List Int)) : Prop := CallOK cx 70 (f70_1_A x1) (f70_1_K x1) [] (f70_1_v r) (f70_1_k x1 r)

noncomputable def f70_1m_v : (List Int) → G := f70_1_v
noncomputable def f70_1m_k0 : (List Int) → List (Nat × Blk) := f70_1_k0
noncomputable def f70_1m_k (x1 : List Int) : (List Int) → List (Nat × Blk) := f70_1_k (some x1)
noncomputable def f70_1m_A (x1 : List Int) : List G := [(.r (.at (.lst (.int .i64) x1 false)))]
noncomputable def f70_1m_K (x1 : List Int) : List (Nat × Blk) := []
def f70_1m_C (x1 : List Int) (r : (List Int)) : Prop := CallOK cx 70 (f70_1m_A x1) (f70_1m_K x1) [] (f70_1m_v r) (f70_1m_k x1 r)

def f32_M : List Nat := [27]
noncomputable def f32_p5_H (x1 : List Int) (x4 : Int) (x5 : Int) (x6 : Int) : GS := ⟨[(0, (.r (.at (.lst (.int .i64) x1 false)))), (5, (.r (.at (.int .i64 ((List.length x1 : Nat) : Int))))), (6, (.r (.at (.int .i64 x4)))), (7, (.r (.at (.int .i64 x5)))), (33, (.r (.at (.int .i64 ((List.length x1 : Nat) : Int))))), (34, (.r (.at (.int .i64 x6))))], []⟩
noncomputable def f32_p5_x : Int → GExit := fun y0 => (.exit 1)
noncomputable def f32_p5_s (x1 : List Int) (x4 : Int) : Int → GS := fun y0 => ⟨[(0, (.r (.at (.lst (.int .i64) x1 false)))), (5, (.r (.at (.int .i64 ((List.length x1 : Nat) : Int))))), (6, (.r (.at (.int .i64 x4)))), (7, (.r (.at (.int .i64 y0))))], []⟩
def f32_p5_P (x1 : List Int) (x4 : Int) (x5 : Int) (x6 : Int) (r : Int) : Prop := Lp cx f32_M 98 (part Try.f32 5) (f32_p5_H x1 x4 x5 x6) (f32_p5_x r) (f32_p5_s x1 x4 r)
noncomputable def f32_p13_H (x1 : List Int) (x4 : Int) (x15 : Int) (x14 : List Int) : GS := ⟨[(9, (.r (.at (.sl 27 0 (Int.toNat (w64 (((List.length x1 : Nat) : Int) - 1))))))), (86, (.r (.at (.int .i64 x4)))), (87, (.r (.at (.int .i64 x15))))], [(27, (.gr (.int .i64) 3 x14 true))]⟩
noncomputable def f32_p13_x : (List Int) → GExit := fun y0 => (.exit 6)
noncomputable def f32_p13_s (x1 : List Int) (x4 : Int) : (List Int) → GS := fun y0 => ⟨[(9, (.r (.at (.sl 27 0 (Int.toNat (w64 (((List.length x1 : Nat) : Int) - 1)))))))], [(27, (.gr (.int .i64) 3 y0 true))]⟩
def f32_p13_P (x1 : List Int) (x4 : Int) (x15 : Int) (x14 : List Int) (r : (List Int)) : Prop := Lp cx f32_M 98 (part Try.f32 13) (f32_p13_H x1 x4 x15 x14) (f32_p13_x r) (f32_p13_s x1 x4 r)
noncomputable def f32_p17_H (x9 : Int) (x10 : List Int) (x24 : Int) (x23 : List Int) : GS := ⟨[(7, (.r (.at (.int .i64 x9)))), (9, (.r (.at (.sl 27 0 (List.length x10))))), (52, (.r (.at (.int .i64 x9)))), (53, (.r (.at (.int .i64 x24))))], [(27, (.gr (.int .i64) 3 x23 true))]⟩
noncomputable def f32_p17_x : (List Int) → GExit := fun y0 => (.exit 4)
noncomputable def f32_p17_s (x9 : Int) (x10 : List Int) : (List Int) → GS := fun y0 => ⟨[(7, (.r (.at (.int .i64 x9)))), (9, (.r (.at (.sl 27 0 (List.length x10)))))], [(27, (.gr (.int .i64) 3 y0 true))]⟩
def f32_p17_P (x9 : Int) (x10 : List Int) (x24 : Int) (x23 : List Int) (r : (List Int)) : Prop := Lp cx f32_M 98 (part Try.f32 17) (f32_p17_H x9 x10 x24 x23) (f32_p17_x r) (f32_p17_s x9 x10 r)
noncomputable def f32_p11_H (x1 : List Int) (x4 : Int) (x9 : Int) (x10 : List Int) : GS := ⟨[(5, (.r (.at (.int .i64 ((List.length x1 : Nat) : Int))))), (6, (.r (.at (.int .i64 x4)))), (7, (.r (.at (.int .i64 x9)))), (9, (.r (.at (.sl 27 0 (List.length x10))))), (78, (.r (.at (.bool (decide (x4 ≤ x9))))))], [(27, (.gr (.int .i64) 3 x10 true))]⟩
noncomputable def f32_p11_x : f32_p11_R → GExit := fun
  | .c0 y0 => .normal
  | .c1 y0 => .normal
noncomputable def f32_p11_s (x1 : List Int) (x4 : Int) (x9 : Int) (x10 : List Int) : f32_p11_R → GS := fun
  | .c0 y0 => ⟨[(9, (.r (.at (.sl 27 0 (Int.toNat (w64 (((List.length x1 : Nat) : Int) - 1)))))))], [(27, (.gr (.int .i64) 3 y0 true))]⟩
  | .c1 y0 => ⟨[(9, (.r (.at (.sl 27 0 (List.length y0)))))], [(27, (.gr (.int .i64) 3 y0 true))]⟩
def f32_p11_P (x1 : List Int) (x4 : Int) (x9 : Int) (x10 : List Int) (r : f32_p11_R) : Prop := Ex cx f32_M 98 (part Try.f32 11) (f32_p11_H x1 x4 x9 x10) (f32_p11_x r) (f32_p11_s x1 x4 x9 x10 r)
noncomputable def f32_p13_1_H (x1 : List Int) (x4 : Int) (x32 : Int) (x31 : List Int) : GS := ⟨[(9, (.r (.at (.sl 27 0 (Int.toNat (w64 (((List.length x1 : Nat) : Int) - 1))))))), (86, (.r (.at (.int .i64 x4)))), (87, (.r (.at (.int .i64 x32))))], [(27, (.gr (.int .i64) 3 x31 true))]⟩
noncomputable def f32_p13_1_x : (List Int) → GExit := fun y0 => (.exit 6)
noncomputable def f32_p13_1_s (x1 : List Int) (x4 : Int) : (List Int) → GS := fun y0 => ⟨[(9, (.r (.at (.sl 27 0 (Int.toNat (w64 (((List.length x1 : Nat) : Int) - 1)))))))], [(27, (.gr (.int .i64) 3 y0 true))]⟩
def f32_p13_1_P (x1 : List Int) (x4 : Int) (x32 : Int) (x31 : List Int) (r : (List Int)) : Prop := Lp cx f32_M 98 (part Try.f32 13) (f32_p13_1_H x1 x4 x32 x31) (f32_p13_1_x r) (f32_p13_1_s x1 x4 r)
noncomputable def f32_p17_1_H (x9 : Int) (x10 : List Int) (x41 : Int) (x40 : List Int) : GS := ⟨[(7, (.r (.at (.int .i64 x9)))), (9, (.r (.at (.sl 27 0 (List.length x10))))), (52, (.r (.at (.int .i64 x9)))), (53, (.r (.at (.int .i64 x41))))], [(27, (.gr (.int .i64) 3 x40 true))]⟩
noncomputable def f32_p17_1_x : (List Int) → GExit := fun y0 => (.exit 4)
noncomputable def f32_p17_1_s (x9 : Int) (x10 : List Int) : (List Int) → GS := fun y0 => ⟨[(7, (.r (.at (.int .i64 x9)))), (9, (.r (.at (.sl 27 0 (List.length x10)))))], [(27, (.gr (.int .i64) 3 y0 true))]⟩
def f32_p17_1_P (x9 : Int) (x10 : List Int) (x41 : Int) (x40 : List Int) (r : (List Int)) : Prop := Lp cx f32_M 98 (part Try.f32 17) (f32_p17_1_H x9 x10 x41 x40) (f32_p17_1_x r) (f32_p17_1_s x9 x10 r)
noncomputable def f32_p11_1_H (x1 : List Int) (x4 : Int) (x9 : Int) (x10 : List Int) : GS := ⟨[(5, (.r (.at (.int .i64 ((List.length x1 : Nat) : Int))))), (6, (.r (.at (.int .i64 x4)))), (7, (.r (.at (.int .i64 x9)))), (9, (.r (.at (.sl 27 0 (List.length x10))))), (78, (.r (.at (.bool (decide (x4 ≤ x9))))))], [(27, (.gr (.int .i64) 3 x10 true))]⟩
noncomputable def f32_p11_1_x : f32_p11_1_R → GExit := fun
  | .c0 y0 => .normal
  | .c1 y0 => .normal
noncomputable def f32_p11_1_s (x1 : List Int) (x4 : Int) (x9 : Int) (x10 : List Int) : f32_p11_1_R → GS := fun
  | .c0 y0 => ⟨[(9, (.r (.at (.sl 27 0 (Int.toNat (w64 (((List.length x1 : Nat) : Int) - 1)))))))], [(27, (.gr (.int .i64) 3 y0 true))]⟩
  | .c1 y0 => ⟨[(9, (.r (.at (.sl 27 0 (List.length y0)))))], [(27, (.gr (.int .i64) 3 y0 true))]⟩
def f32_p11_1_P (x1 : List Int) (x4 : Int) (x9 : Int) (x10 : List Int) (r : f32_p11_1_R) : Prop := Ex cx f32_M 98 (part Try.f32 11) (f32_p11_1_H x1 x4 x9 x10) (f32_p11_1_x r) (f32_p11_1_s x1 x4 x9 x10 r)
noncomputable def f32_v : ((List Int) × Int) → G := fun (y0, y1) => (.tup [(.at (.lst (.int .i64) y0 false)), (.at (.int .i64 y1))])
noncomputable def f32_k0 : ((List Int) × Int) → List (Nat × Blk) := fun (y0, y1) => []
noncomputable def f32_k (x1 : List Int) : ((List Int) × Int) → List (Nat × Blk) := fun (y0, y1) => []
noncomputable def f32_A (x1 : List Int) : List G := [(.r (.at (.lst (.int .i64) x1 false)))]
noncomputable def f32_K (x1 : List Int) : List (Nat × Blk) := []
def f32_C (x1 : List Int) (r : (List Int) × Int) : Prop := CallOK cx 32 (f32_A x1) (f32_K x1) [] (f32_v r) (f32_k x1 r)

def f74_M : List Nat := []
noncomputable def f74_p4_H (x2 : Int) (x3 : Int) (x1 : List Int) (x4 : Int) : GS := ⟨[(3, (.r (.at (.int .i64 x2)))), (4, (.r (.at (.int .i64 x3)))), (6, (.r (.at (.lst (.int .i64) x1 false)))), (7, (.r (.at (.int .i64 ((List.length x1 : Nat) : Int))))), (8, (.r (.at (.int .i64 x3)))), (15, (.r (.at (.bool (decide (x4 > x3))))))], []⟩
noncomputable def f74_p4_x : Int → GExit := fun y0 => .normal
noncomputable def f74_p4_s (x2 : Int) (x3 : Int) (x1 : List Int) (x4 : Int) : Int → GS := fun y0 => ⟨[(3, (.r (.at (.int .i64 y0)))), (6, (.r (.at (.lst (.int .i64) x1 false)))), (7, (.r (.at (.int .i64 ((List.length x1 : Nat) : Int))))), (8, (.r (.at (.int .i64 x3))))], []⟩
def f74_p4_P (x2 : Int) (x3 : Int) (x1 : List Int) (x4 : Int) (r : Int) : Prop := Ex cx f74_M 20 (part Try.f74 4) (f74_p4_H x2 x3 x1 x4) (f74_p4_x r) (f74_p4_s x2 x3 x1 x4 r)
noncomputable def f74_p1_H (x1 : List Int) (x2 : Int) (x3 : Int) : GS := ⟨[(3, (.r (.at (.int .i64 x2)))), (6, (.r (.at (.lst (.int .i64) x1 false)))), (7, (.r (.at (.int .i64 ((List.length x1 : Nat) : Int))))), (8, (.r (.at (.int .i64 x3))))], []⟩
noncomputable def f74_p1_x : Int → GExit := fun y0 => (.exit 0)
noncomputable def f74_p1_s (x1 : List Int) : Int → GS := fun y0 => ⟨[(3, (.r (.at (.int .i64 y0))))], []⟩
def f74_p1_P (x1 : List Int) (x2 : Int) (x3 : Int) (r : Int) : Prop := Lp cx f74_M 20 (part Try.f74 1) (f74_p1_H x1 x2 x3) (f74_p1_x r) (f74_p1_s x1 r)
noncomputable def f74_v : Int → G := fun y0 => (.r (.at (.int .i64 y0)))
noncomputable def f74_k0 : Int → List (Nat × Blk) := fun y0 => []
noncomputable def f74_k (x1 : List Int) : Int → List (Nat × Blk) := fun y0 => []
noncomputable def f74_A (x1 : List Int) : List G := [(.r (.at (.lst (.int .i64) x1 false)))]
noncomputable def f74_K (x1 : List Int) : List (Nat × Blk) := []
def f74_C (x1 : List Int) (r : Int) : Prop := CallOK cx 74 (f74_A x1) (f74_K x1) [] (f74_v r) (f74_k x1 r)

def f70_2_M : List Nat := [29]
noncomputable def f70_2_v : (List Int) → G := fun y0 => (.r (.at (.lst (.int .i64) y0 false)))
noncomputable def f70_2_k0 : (List Int) → List (Nat × Blk) := fun y0 => []
noncomputable def f70_2_k (x1 : Option (List Int)) : (List Int) → List (Nat × Blk) := fun y0 => []
noncomputable def f70_2_A (x1 : Option (List Int)) : List G := [(.r (.at (.olst (.int .i64) x1)))]
noncomputable def f70_2_K (x1 : Option (List Int)) : List (Nat × Blk) := []
def f70_2_C (x1 : Option (List Int)) (r : (List Int)) : Prop := CallOK cx 70 (f70_2_A x1) (f70_2_K x1) [] (f70_2_v r) (f70_2_k x1 r)

noncomputable def f70_2m_v : (List Int) → G := f70_2_v
noncomputable def f70_2m_k0 : (List Int) → List (Nat × Blk) := f70_2_k0
noncomputable def f70_2m_k (x1 : List Int) : (List Int) → List (Nat × Blk) := f70_2_k (some x1)
noncomputable def f70_2m_A (x1 : List Int) : List G := [(.r (.at (.lst (.int .i64) x1 false)))]
noncomputable def f70_2m_K (x1 : List Int) : List (Nat × Blk) := []
def f70_2m_C (x1 : List Int) (r : (List Int)) : Prop := CallOK cx 70 (f70_2m_A x1) (f70_2m_K x1) [] (f70_2m_v r) (f70_2m_k x1 r)

def f40_M : List Nat := [28]
noncomputable def f40_p5_1_H (x1 : List Int) (x3 : Int) (x6 : List Int) (x8 : Int) (x7 : Int) : GS := ⟨[(0, (.r (.at (.lst (.int .i64) x1 false)))), (2, (.r (.at (.int .i64 x3)))), (3, (.r (.at (.sl 28 0 (List.length x6))))), (8, (.r (.at (.int .i64 x8)))), (18, (.r (.at (.lst (.int .i64) ((List.drop 0 (List.take (Int.toNat x3) x1)) : List Int) false)))), (19, (.r (.at (.int .i64 ((List.length (List.drop 0 (List.take (Int.toNat x3) x1)) : Nat) : Int))))), (20, (.r (.at (.int .i64 x7)))), (26, (.r (.at (.bool (decide (x8 > x3))))))], [(28, (.gr (.int .i64) 3 x6 true))]⟩
noncomputable def f40_p5_1_x : (List Int) → GExit := fun y0 => .normal
noncomputable def f40_p5_1_s (x1 : List Int) (x3 : Int) (x6 : List Int) (x8 : Int) (x7 : Int) : (List Int) → GS := fun y0 => ⟨[(0, (.r (.at (.lst (.int .i64) x1 false)))), (2, (.r (.at (.int .i64 x3)))), (3, (.r (.at (.sl 28 0 (List.length y0))))), (18, (.r (.at (.lst (.int .i64) ((List.drop 0 (List.take (Int.toNat x3) x1)) : List Int) false)))), (19, (.r (.at (.int .i64 ((List.length (List.drop 0 (List.take (Int.toNat x3) x1)) : Nat) : Int))))), (20, (.r (.at (.int .i64 x7))))], [(28, (.gr (.int .i64) 3 y0 true))]⟩
def f40_p5_1_P (x1 : List Int) (x3 : Int) (x6 : List Int) (x8 : Int) (x7 : Int) (r : (List Int)) : Prop := Ex cx f40_M 40 (part Try.f40 5) (f40_p5_1_H x1 x3 x6 x8 x7) (f40_p5_1_x r) (f40_p5_1_s x1 x3 x6 x8 x7 r)
noncomputable def f40_p2_H (x1 : List Int) (x3 : Int) (x7 : Int) (x6 : List Int) : GS := ⟨[(0, (.r (.at (.lst (.int .i64) x1 false)))), (2, (.r (.at (.int .i64 x3)))), (3, (.r (.at (.sl 28 0 (List.length x6))))), (18, (.r (.at (.lst (.int .i64) ((List.drop 0 (List.take (Int.toNat x3) x1)) : List Int) false)))), (19, (.r (.at (.int .i64 ((List.length (List.drop 0 (List.take (Int.toNat x3) x1)) : Nat) : Int))))), (20, (.r (.at (.int .i64 x7))))], [(28, (.gr (.int .i64) 3 x6 true))]⟩
noncomputable def f40_p2_x : (List Int) → GExit := fun y0 => (.exit 0)
noncomputable def f40_p2_s (x1 : List Int) (x3 : Int) : (List Int) → GS := fun y0 => ⟨[(0, (.r (.at (.lst (.int .i64) x1 false)))), (2, (.r (.at (.int .i64 x3)))), (3, (.r (.at (.sl 28 0 (List.length y0)))))], [(28, (.gr (.int .i64) 3 y0 true))]⟩
def f40_p2_P (x1 : List Int) (x3 : Int) (x7 : Int) (x6 : List Int) (r : (List Int)) : Prop := Lp cx f40_M 40 (part Try.f40 2) (f40_p2_H x1 x3 x7 x6) (f40_p2_x r) (f40_p2_s x1 x3 r)
noncomputable def f40_v : (Int × (List Int) × (List Int) × Int) → G := fun (y0, y1, y2, y3) => (.tup [(.at (.int .i64 y0)), (.at (.lst (.int .i64) y1 false)), (.at (.lst (.int .i64) y2 false)), (.at (.int .i64 y3))])
noncomputable def f40_k0 : (Int × (List Int) × (List Int) × Int) → List (Nat × Blk) := fun (y0, y1, y2, y3) => []
noncomputable def f40_k (x1 : List Int) : (Int × (List Int) × (List Int) × Int) → List (Nat × Blk) := fun (y0, y1, y2, y3) => []
noncomputable def f40_A (x1 : List Int) : List G := [(.r (.at (.lst (.int .i64) x1 false)))]
noncomputable def f40_K (x1 : List Int) : List (Nat × Blk) := []
def f40_C (x1 : List Int) (r : Int × (List Int) × (List Int) × Int) : Prop := CallOK cx 40 (f40_A x1) (f40_K x1) [] (f40_v r) (f40_k x1 r)

def f95_M : List Nat := []
noncomputable def f95_v : (Int × Int) → G := fun (y0, y1) => (.tup [(.at (.int .u64 y0)), (.at (.int .u64 y1))])
noncomputable def f95_k0 : (Int × Int) → List (Nat × Blk) := fun (y0, y1) => []
noncomputable def f95_k (x1 : Int) (x2 : Int) : (Int × Int) → List (Nat × Blk) := fun (y0, y1) => []
noncomputable def f95_A (x1 : Int) (x2 : Int) : List G := [(.r (.at (.int .u64 x1))), (.r (.at (.int .u64 x2)))]
noncomputable def f95_K (x1 : Int) (x2 : Int) : List (Nat × Blk) := []
def f95_C (x1 : Int) (x2 : Int) (r : Int × Int) : Prop := CallOK cx 95 (f95_A x1 x2) (f95_K x1 x2) [] (f95_v r) (f95_k x1 x2 r)

def f90_M : List Nat := []
noncomputable def f90_v : (Int × Int) → G := fun (y0, y1) => (.tup [(.at (.int .u64 y0)), (.at (.int .u64 y1))])
noncomputable def f90_k0 : (Int × Int) → List (Nat × Blk) := fun (y0, y1) => []
noncomputable def f90_k (x1 : Int) (x2 : Int) : (Int × Int) → List (Nat × Blk) := fun (y0, y1) => []
noncomputable def f90_A (x1 : Int) (x2 : Int) : List G := [(.r (.at (.int .u64 x1))), (.r (.at (.int .u64 x2)))]
noncomputable def f90_K (x1 : Int) (x2 : Int) : List (Nat × Blk) := []
def f90_C (x1 : Int) (x2 : Int) (r : Int × Int) : Prop := CallOK cx 90 (f90_A x1 x2) (f90_K x1 x2) [] (f90_v r) (f90_k x1 x2 r)

def f76_M : List Nat := [30]
noncomputable def f76_p0_H (x1 : List Int) (x2 : Int) : GS := ⟨[(0, (.r (.at (.lst (.int .i64) x1 false)))), (1, (.r (.at (.int .i64 x2)))), (10, (.r (.at (.bool (decide (x2 < 0))))))], []⟩
noncomputable def f76_p0_x : Unit → GExit := fun _ => .normal
noncomputable def f76_p0_s (x1 : List Int) (x2 : Int) : Unit → GS := fun _ => ⟨[(0, (.r (.at (.lst (.int .i64) x1 false)))), (1, (.r (.at (.int .i64 x2))))], []⟩
def f76_p0_P (x1 : List Int) (x2 : Int) (r : Unit) : Prop := Ex cx f76_M 48 (part Try.f76 0) (f76_p0_H x1 x2) (f76_p0_x r) (f76_p0_s x1 x2 r)
noncomputable def f76_p1_H (x1 : List Int) (x4 : Int) : GS := ⟨[(0, (.r (.at (.lst (.int .i64) x1 false)))), (6, (.r (.at (.int .u64 x4)))), (26, (.r (.at (.bool (decide (x4 > 9223372036854775807))))))], []⟩
noncomputable def f76_p1_x : Unit → GExit := fun _ => .normal
noncomputable def f76_p1_s (x1 : List Int) (x4 : Int) : Unit → GS := fun _ => ⟨[(0, (.r (.at (.lst (.int .i64) x1 false)))), (6, (.r (.at (.int .u64 x4))))], []⟩
def f76_p1_P (x1 : List Int) (x4 : Int) (r : Unit) : Prop := Ex cx f76_M 48 (part Try.f76 1) (f76_p1_H x1 x4) (f76_p1_x r) (f76_p1_s x1 x4 r)
noncomputable def f76_p3_H (x4 : Int) (x7 : Int) (x6 : List Int) : GS := ⟨[(7, (.r (.at (.sl 30 0 (Int.toNat (w64 (x4))))))), (8, (.r (.at (.int .i64 x7))))], [(30, (.gr (.int .i64) 3 x6 true))]⟩
noncomputable def f76_p3_x : (List Int) → GExit := fun y0 => (.exit 0)
noncomputable def f76_p3_s (x4 : Int) : (List Int) → GS := fun y0 => ⟨[(7, (.r (.at (.sl 30 0 (Int.toNat (w64 (x4)))))))], [(30, (.gr (.int .i64) 3 y0 true))]⟩
def f76_p3_P (x4 : Int) (x7 : Int) (x6 : List Int) (r : (List Int)) : Prop := Lp cx f76_M 48 (part Try.f76 3) (f76_p3_H x4 x7 x6) (f76_p3_x r) (f76_p3_s x4 r)
noncomputable def f76_v : (Nat × (List Int)) → G := fun (y0, y1) => (.r (.at (.sl 30 0 y0)))
noncomputable def f76_k0 : (Nat × (List Int)) → List (Nat × Blk) := fun (y0, y1) => [(30, (.gr (.int .i64) 3 y1 true))]
noncomputable def f76_k (x1 : List Int) (x2 : Int) : (Nat × (List Int)) → List (Nat × Blk) := fun (y0, y1) => [(30, (.gr (.int .i64) 3 y1 true))]
noncomputable def f76_A (x1 : List Int) (x2 : Int) : List G := [(.r (.at (.lst (.int .i64) x1 false))), (.r (.at (.int .i64 x2)))]
noncomputable def f76_K (x1 : List Int) (x2 : Int) : List (Nat × Blk) := []
def f76_C (x1 : List Int) (x2 : Int) (r : Nat × (List Int)) : Prop := CallOK cx 76 (f76_A x1 x2) (f76_K x1 x2) [] (f76_v r) (f76_k x1 x2 r)

def f42_M : List Nat := [30]
noncomputable def f42_p0_H (x1 : Int) (x2 : List Int) (x3 : List Int) (x4 : Int) : GS := ⟨[(0, (.r (.at (.int .i64 x1)))), (1, (.r (.at (.lst (.int .i64) x2 false)))), (2, (.r (.at (.lst (.int .i64) x3 false)))), (8, (.r (.at (.int .i64 x4)))), (15, (.r (.at (.bool (x4 == 0)))))], []⟩
noncomputable def f42_p0_x : Int → GExit := fun y0 => .normal
noncomputable def f42_p0_s (x1 : Int) (x2 : List Int) (x3 : List Int) (x4 : Int) : Int → GS := fun y0 => ⟨[(0, (.r (.at (.int .i64 x1)))), (1, (.r (.at (.lst (.int .i64) x2 false)))), (2, (.r (.at (.lst (.int .i64) x3 false)))), (8, (.r (.at (.int .i64 y0))))], []⟩
def f42_p0_P (x1 : Int) (x2 : List Int) (x3 : List Int) (x4 : Int) (r : Int) : Prop := Ex cx f42_M 76 (part Try.f42 0) (f42_p0_H x1 x2 x3 x4) (f42_p0_x r) (f42_p0_s x1 x2 x3 x4 r)
noncomputable def f42_p7_H (x3 : List Int) (x11 : Nat) (x2 : List Int) (x17 : Int) (x16 : List Int) : GS := ⟨[(2, (.r (.at (.lst (.int .i64) x3 false)))), (9, (.r (.at (.sl 30 0 x11)))), (58, (.r (.at (.lst (.int .i64) x2 false)))), (59, (.r (.at (.int .i64 ((List.length x2 : Nat) : Int))))), (60, (.r (.at (.int .i64 x17))))], [(30, (.gr (.int .i64) 3 x16 true))]⟩
noncomputable def f42_p7_x : (List Int) → GExit := fun y0 => (.exit 1)
noncomputable def f42_p7_s (x3 : List Int) (x11 : Nat) (x2 : List Int) : (List Int) → GS := fun y0 => ⟨[(2, (.r (.at (.lst (.int .i64) x3 false)))), (9, (.r (.at (.sl 30 0 x11))))], [(30, (.gr (.int .i64) 3 y0 true))]⟩
def f42_p7_P (x3 : List Int) (x11 : Nat) (x2 : List Int) (x17 : Int) (x16 : List Int) (r : (List Int)) : Prop := Lp cx f42_M 76 (part Try.f42 7) (f42_p7_H x3 x11 x2 x17 x16) (f42_p7_x r) (f42_p7_s x3 x11 x2 r)
noncomputable def f42_p7_1_H (x3 : List Int) (x23 : Nat) (x2 : List Int) (x29 : Int) (x28 : List Int) : GS := ⟨[(2, (.r (.at (.lst (.int .i64) x3 false)))), (9, (.r (.at (.sl 30 0 x23)))), (58, (.r (.at (.lst (.int .i64) x2 false)))), (59, (.r (.at (.int .i64 ((List.length x2 : Nat) : Int))))), (60, (.r (.at (.int .i64 x29))))], [(30, (.gr (.int .i64) 3 x28 true))]⟩
noncomputable def f42_p7_1_x : (List Int) → GExit := fun y0 => (.exit 1)
noncomputable def f42_p7_1_s (x3 : List Int) (x23 : Nat) (x2 : List Int) : (List Int) → GS := fun y0 => ⟨[(2, (.r (.at (.lst (.int .i64) x3 false)))), (9, (.r (.at (.sl 30 0 x23))))], [(30, (.gr (.int .i64) 3 y0 true))]⟩
def f42_p7_1_P (x3 : List Int) (x23 : Nat) (x2 : List Int) (x29 : Int) (x28 : List Int) (r : (List Int)) : Prop := Lp cx f42_M 76 (part Try.f42 7) (f42_p7_1_H x3 x23 x2 x29 x28) (f42_p7_1_x r) (f42_p7_1_s x3 x23 x2 r)
noncomputable def f42_v : ((List Int) × Int) → G := fun (y0, y1) => (.tup [(.at (.lst (.int .i64) y0 false)), (.at (.int .i64 y1))])
noncomputable def f42_k0 : ((List Int) × Int) → List (Nat × Blk) := fun (y0, y1) => []
noncomputable def f42_k (x1 : Int) (x2 : List Int) (x3 : List Int) : ((List Int) × Int) → List (Nat × Blk) := fun (y0, y1) => []
noncomputable def f42_A (x1 : Int) (x2 : List Int) (x3 : List Int) : List G := [(.r (.at (.int .i64 x1))), (.r (.at (.lst (.int .i64) x2 false))), (.r (.at (.lst (.int .i64) x3 false)))]
noncomputable def f42_K (x1 : Int) (x2 : List Int) (x3 : List Int) : List (Nat × Blk) := []
def f42_C (x1 : Int) (x2 : List Int) (x3 : List Int) (r : (List Int) × Int) : Prop := CallOK cx 42 (f42_A x1 x2 x3) (f42_K x1 x2 x3) [] (f42_v r) (f42_k x1 x2 x3 r)

def f77_M : List Nat := []
noncomputable def f77_p2_H (x1 : List Int) (x2 : List Int) (x3 : Int) : GS := ⟨[(0, (.r (.at (.lst (.int .i64) x1 false)))), (1, (.r (.at (.lst (.int .i64) x2 false)))), (12, (.r (.at (.int .i64 ((List.length x1 : Nat) : Int))))), (13, (.r (.at (.int .i64 x3))))], []⟩
noncomputable def f77_p2_x : f77_p2_R → GExit := fun
  | .c0 => .ret
  | .c1 => (.exit 0)
noncomputable def f77_p2_s (x1 : List Int) (x2 : List Int) : f77_p2_R → GS := fun
  | .c0 => ⟨[(4, (.r (.at (.bool false))))], []⟩
  | .c1 => ⟨[], []⟩
def f77_p2_P (x1 : List Int) (x2 : List Int) (x3 : Int) (r : f77_p2_R) : Prop := Lp cx f77_M 26 (part Try.f77 2) (f77_p2_H x1 x2 x3) (f77_p2_x r) (f77_p2_s x1 x2 r)
noncomputable def f77_v : Bool → G := fun y0 => (.r (.at (.bool y0)))
noncomputable def f77_k0 : Bool → List (Nat × Blk) := fun y0 => []
noncomputable def f77_k (x1 : List Int) (x2 : List Int) : Bool → List (Nat × Blk) := fun y0 => []
noncomputable def f77_A (x1 : List Int) (x2 : List Int) : List G := [(.r (.at (.lst (.int .i64) x1 false))), (.r (.at (.lst (.int .i64) x2 false)))]
noncomputable def f77_K (x1 : List Int) (x2 : List Int) : List (Nat × Blk) := []
def f77_C (x1 : List Int) (x2 : List Int) (r : Bool) : Prop := CallOK cx 77 (f77_A x1 x2) (f77_K x1 x2) [] (f77_v r) (f77_k x1 x2 r)

def f44_M : List Nat := [31]
noncomputable def f44_p4_H (x1 : List Int) (x5 : Int) (x10 : Int) (x9 : List Int) : GS := ⟨[(0, (.r (.at (.lst (.int .i64) x1 false)))), (5, (.r (.at (.sl 31 0 (List.length x9))))), (21, (.r (.at (.int .i64 x5)))), (22, (.r (.at (.int .i64 x10))))], [(31, (.gr (.int .i64) 3 x9 true))]⟩
noncomputable def f44_p4_x : (List Int) → GExit := fun y0 => (.exit 1)
noncomputable def f44_p4_s (x1 : List Int) (x5 : Int) : (List Int) → GS := fun y0 => ⟨[(5, (.r (.at (.sl 31 0 (List.length y0)))))], [(31, (.gr (.int .i64) 3 y0 true))]⟩
def f44_p4_P (x1 : List Int) (x5 : Int) (x10 : Int) (x9 : List Int) (r : (List Int)) : Prop := Lp cx f44_M 38 (part Try.f44 4) (f44_p4_H x1 x5 x10 x9) (f44_p4_x r) (f44_p4_s x1 x5 r)
noncomputable def f44_v : ((List Int) × Int) → G := fun (y0, y1) => (.tup [(.at (.lst (.int .i64) y0 false)), (.at (.int .i64 y1))])
noncomputable def f44_k0 : ((List Int) × Int) → List (Nat × Blk) := fun (y0, y1) => []
noncomputable def f44_k (x1 : List Int) : ((List Int) × Int) → List (Nat × Blk) := fun (y0, y1) => []
noncomputable def f44_A (x1 : List Int) : List G := [(.r (.at (.lst (.int .i64) x1 false)))]
noncomputable def f44_K (x1 : List Int) : List (Nat × Blk) := []
def f44_C (x1 : List Int) (r : (List Int) × Int) : Prop := CallOK cx 44 (f44_A x1) (f44_K x1) [] (f44_v r) (f44_k x1 r)

def f78_M : List Nat := []
noncomputable def f78_v : Bool → G := fun y0 => (.r (.at (.bool y0)))
noncomputable def f78_k0 : Bool → List (Nat × Blk) := fun y0 => []
noncomputable def f78_k (x1 : Int) : Bool → List (Nat × Blk) := fun y0 => []
noncomputable def f78_A (x1 : Int) : List G := [(.r (.at (.int .i64 x1)))]
noncomputable def f78_K (x1 : Int) : List (Nat × Blk) := []
def f78_C (x1 : Int) (r : Bool) : Prop := CallOK cx 78 (f78_A x1) (f78_K x1) [] (f78_v r) (f78_k x1 r)

def f85_1_M : List Nat := []
noncomputable def f85_1_p1_H (x1 : List Int) (x2 : Int) : GS := ⟨[(0, (.r (.at (.lst (.int .i64) x1 false)))), (1, (.r (.at (.fn 78)))), (7, (.r (.at (.int .i64 ((List.length x1 : Nat) : Int))))), (8, (.r (.at (.int .i64 x2))))], []⟩
noncomputable def f85_1_p1_x : f85_1_p1_R → GExit := fun
  | .c0 y0 => .ret
  | .c1 => (.exit 0)
noncomputable def f85_1_p1_s (x1 : List Int) : f85_1_p1_R → GS := fun
  | .c0 y0 => ⟨[(4, (.r (.at (.int .i64 y0))))], []⟩
  | .c1 => ⟨[], []⟩
def f85_1_p1_P (x1 : List Int) (x2 : Int) (r : f85_1_p1_R) : Prop := Lp cx f85_1_M 19 (part Try.f85 1) (f85_1_p1_H x1 x2) (f85_1_p1_x r) (f85_1_p1_s x1 r)
noncomputable def f85_1_v : Int → G := fun y0 => (.r (.at (.int .i64 y0)))
noncomputable def f85_1_k0 : Int → List (Nat × Blk) := fun y0 => []
noncomputable def f85_1_k (x1 : List Int) : Int → List (Nat × Blk) := fun y0 => []
noncomputable def f85_1_A (x1 : List Int) : List G := [(.r (.at (.lst (.int .i64) x1 false))), (.r (.at (.fn 78)))]
noncomputable def f85_1_K (x1 : List Int) : List (Nat × Blk) := []
def f85_1_C (x1 : List Int) (r : Int) : Prop := CallOK cx 85 (f85_1_A x1) (f85_1_K x1) [] (f85_1_v r) (f85_1_k x1 r)

def f63_1_M : List Nat := []
noncomputable def f63_1_v : Bool → G := fun y0 => (.r (.at (.bool y0)))
noncomputable def f63_1_k0 : Bool → List (Nat × Blk) := fun y0 => []
noncomputable def f63_1_k (x1 : List Int) : Bool → List (Nat × Blk) := fun y0 => []
noncomputable def f63_1_A (x1 : List Int) : List G := [(.r (.at (.lst (.int .i64) x1 false))), (.r (.at (.fn 78)))]
noncomputable def f63_1_K (x1 : List Int) : List (Nat × Blk) := []
def f63_1_C (x1 : List Int) (r : Bool) : Prop := CallOK cx 63 (f63_1_A x1) (f63_1_K x1) [] (f63_1_v r) (f63_1_k x1 r)

def f46_M : List Nat := [32, 33]
noncomputable def f46_p8_1_H (x14 : Int) (x1 : List Int) (x16 : Int) (x20 : Int) (x21 : List Int) : GS := ⟨[(5, (.r (.at (.ptr 32 0 0)))), (6, (.r (.at (.int .i64 x14)))), (27, (.r (.at (.lst (.int .i64) x1 false)))), (28, (.r (.at (.int .i64 ((List.length x1 : Nat) : Int))))), (29, (.r (.at (.int .i64 x14)))), (43, (.r (.at (.int .i64 (w64 (Int.tdiv x16 2)))))), (44, (.r (.at (.int .i64 x20))))], [(32, (.var [.arr (.int .i64) 31 x21]))]⟩
noncomputable def f46_p8_1_x : (List Int) → GExit := fun y0 => (.exit 3)
noncomputable def f46_p8_1_s (x14 : Int) (x1 : List Int) (x16 : Int) : (List Int) → GS := fun y0 => ⟨[(5, (.r (.at (.ptr 32 0 0)))), (27, (.r (.at (.lst (.int .i64) x1 false)))), (28, (.r (.at (.int .i64 ((List.length x1 : Nat) : Int))))), (29, (.r (.at (.int .i64 x14))))], [(32, (.var [.arr (.int .i64) 31 y0]))]⟩
def f46_p8_1_P (x14 : Int) (x1 : List Int) (x16 : Int) (x20 : Int) (x21 : List Int) (r : (List Int)) : Prop := Lp cx f46_M 70 (part Try.f46 8) (f46_p8_1_H x14 x1 x16 x20 x21) (f46_p8_1_x r) (f46_p8_1_s x14 x1 x16 r)
noncomputable def f46_p4_H (x1 : List Int) (x14 : Int) (x15 : List Int) : GS := ⟨[(5, (.r (.at (.ptr 32 0 0)))), (27, (.r (.at (.lst (.int .i64) x1 false)))), (28, (.r (.at (.int .i64 ((List.length x1 : Nat) : Int))))), (29, (.r (.at (.int .i64 x14))))], [(32, (.var [.arr (.int .i64) 31 x15]))]⟩
noncomputable def f46_p4_x : (List Int) → GExit := fun y0 => (.exit 1)
noncomputable def f46_p4_s (x1 : List Int) : (List Int) → GS := fun y0 => ⟨[(5, (.r (.at (.ptr 32 0 0))))], [(32, (.var [.arr (.int .i64) 31 y0]))]⟩
def f46_p4_P (x1 : List Int) (x14 : Int) (x15 : List Int) (r : (List Int)) : Prop := Lp cx f46_M 70 (part Try.f46 4) (f46_p4_H x1 x14 x15) (f46_p4_x r) (f46_p4_s x1 r)
noncomputable def f46_p15_1_H (x27 : List Int) (x24 : List Int) (x28 : Int) : GS := ⟨[(10, (.r (.at (.sl 33 0 (List.length x27))))), (12, (.r (.at (.int .i64 ((x24)[(Int.toNat x28)]?.getD 0))))), (58, (.r (.agg [.arr (.int .i64) 31 x24]))), (59, (.r (.at (.int .i64 x28)))), (63, (.r (.at (.bool (decide (((x24)[(Int.toNat x28)]?.getD 0) > 0))))))], [(33, (.gr (.int .i64) 3 x27 true))]⟩
noncomputable def f46_p15_1_x : (List Int) → GExit := fun y0 => .normal
noncomputable def f46_p15_1_s (x27 : List Int) (x24 : List Int) (x28 : Int) : (List Int) → GS := fun y0 => ⟨[(10, (.r (.at (.sl 33 0 (List.length y0))))), (58, (.r (.agg [.arr (.int .i64) 31 x24]))), (59, (.r (.at (.int .i64 x28))))], [(33, (.gr (.int .i64) 3 y0 true))]⟩
def f46_p15_1_P (x27 : List Int) (x24 : List Int) (x28 : Int) (r : (List Int)) : Prop := Ex cx f46_M 70 (part Try.f46 15) (f46_p15_1_H x27 x24 x28) (f46_p15_1_x r) (f46_p15_1_s x27 x24 x28 r)
noncomputable def f46_p12_H (x24 : List Int) (x28 : Int) (x27 : List Int) : GS := ⟨[(10, (.r (.at (.sl 33 0 (List.length x27))))), (58, (.r (.agg [.arr (.int .i64) 31 x24]))), (59, (.r (.at (.int .i64 x28))))], [(33, (.gr (.int .i64) 3 x27 true))]⟩
noncomputable def f46_p12_x : (List Int) → GExit := fun y0 => (.exit 5)
noncomputable def f46_p12_s (x24 : List Int) : (List Int) → GS := fun y0 => ⟨[(10, (.r (.at (.sl 33 0 (List.length y0)))))], [(33, (.gr (.int .i64) 3 y0 true))]⟩
def f46_p12_P (x24 : List Int) (x28 : Int) (x27 : List Int) (r : (List Int)) : Prop := Lp cx f46_M 70 (part Try.f46 12) (f46_p12_H x24 x28 x27) (f46_p12_x r) (f46_p12_s x24 r)
noncomputable def f46_v : ((List Int) × Int) → G := fun (y0, y1) => (.tup [(.at (.lst (.int .i64) y0 false)), (.at (.int .i64 y1))])
noncomputable def f46_k0 : ((List Int) × Int) → List (Nat × Blk) := fun (y0, y1) => []
noncomputable def f46_k (x1 : List Int) : ((List Int) × Int) → List (Nat × Blk) := fun (y0, y1) => []
noncomputable def f46_A (x1 : List Int) : List G := [(.r (.at (.lst (.int .i64) x1 false)))]
noncomputable def f46_K (x1 : List Int) : List (Nat × Blk) := []
def f46_C (x1 : List Int) (r : (List Int) × Int) : Prop := CallOK cx 46 (f46_A x1) (f46_K x1) [] (f46_v r) (f46_k x1 r)

def f31_M : List Nat := []
noncomputable def f31_p2_H (x1 : List Int) (x2 : List Int) (x3 : Int) : GS := ⟨[(0, (.r (.at (.lst (.int .i64) x1 false)))), (1, (.r (.at (.lst (.int .i64) x2 false)))), (5, (.r (.at (.int .i64 x3))))], []⟩
noncomputable def f31_p2_x : f31_p2_R → GExit := fun
  | .c0 => .ret
  | .c1 => (.exit 0)
noncomputable def f31_p2_s (x1 : List Int) (x2 : List Int) : f31_p2_R → GS := fun
  | .c0 => ⟨[(4, (.r (.at (.bool false))))], []⟩
  | .c1 => ⟨[], []⟩
def f31_p2_P (x1 : List Int) (x2 : List Int) (x3 : Int) (r : f31_p2_R) : Prop := Lp cx f31_M 26 (part Try.f31 2) (f31_p2_H x1 x2 x3) (f31_p2_x r) (f31_p2_s x1 x2 r)
noncomputable def f31_v : Bool → G := fun y0 => (.r (.at (.bool y0)))
noncomputable def f31_k0 : Bool → List (Nat × Blk) := fun y0 => []
noncomputable def f31_k (x1 : List Int) (x2 : List Int) : Bool → List (Nat × Blk) := fun y0 => []
noncomputable def f31_A (x1 : List Int) (x2 : List Int) : List G := [(.r (.at (.lst (.int .i64) x1 false))), (.r (.at (.lst (.int .i64) x2 false)))]
noncomputable def f31_K (x1 : List Int) (x2 : List Int) : List (Nat × Blk) := []
def f31_C (x1 : List Int) (x2 : List Int) (r : Bool) : Prop := CallOK cx 31 (f31_A x1 x2) (f31_K x1 x2) [] (f31_v r) (f31_k x1 x2 r)

def f19_M : List Nat := []
noncomputable def f19_v : Bool → G := fun y0 => (.r (.at (.bool y0)))
noncomputable def f19_k0 : Bool → List (Nat × Blk) := fun y0 => []
noncomputable def f19_k : Bool → List (Nat × Blk) := fun y0 => []
noncomputable def f19_A : List G := []
noncomputable def f19_K : List (Nat × Blk) := []
def f19_C (r : Bool) : Prop := CallOK cx 19 (f19_A) (f19_K) [] (f19_v r) (f19_k r)

def f55_M : List Nat := []
noncomputable def f55_v : Bool → G := fun y0 => (.r (.at (.bool y0)))
noncomputable def f55_k0 : Bool → List (Nat × Blk) := fun y0 => []
noncomputable def f55_k (x1 : Int) (x2 : Int) (x3 : Int) : Bool → List (Nat × Blk) := fun y0 => []
noncomputable def f55_A (x1 : Int) (x2 : Int) (x3 : Int) : List G := [(.r (.at (.int .i64 x1))), (.r (.at (.int .i64 x2))), (.r (.at (.int .i64 x3)))]
noncomputable def f55_K (x1 : Int) (x2 : Int) (x3 : Int) : List (Nat × Blk) := []
def f55_C (x1 : Int) (x2 : Int) (x3 : Int) (r : Bool) : Prop := CallOK cx 55 (f55_A x1 x2 x3) (f55_K x1 x2 x3) [] (f55_v r) (f55_k x1 x2 x3 r)

def f71_M : List Nat := []
noncomputable def f71_p1_H (x1 : List Int) (x2 : Int) (x3 : Int) : GS := ⟨[(0, (.r (.at (.lst (.int .i64) x1 false)))), (3, (.r (.at (.int .i64 x2)))), (4, (.r (.at (.int .i64 x3))))], []⟩
noncomputable def f71_p1_x : Int → GExit := fun y0 => (.exit 0)
noncomputable def f71_p1_s (x1 : List Int) : Int → GS := fun y0 => ⟨[(3, (.r (.at (.int .i64 y0))))], []⟩
def f71_p1_P (x1 : List Int) (x2 : Int) (x3 : Int) (r : Int) : Prop := Lp cx f71_M 18 (part Try.f71 1) (f71_p1_H x1 x2 x3) (f71_p1_x r) (f71_p1_s x1 r)
noncomputable def f71_v : Int → G := fun y0 => (.r (.at (.int .i64 y0)))
noncomputable def f71_k0 : Int → List (Nat × Blk) := fun y0 => []
noncomputable def f71_k (x1 : List Int) : Int → List (Nat × Blk) := fun y0 => []
noncomputable def f71_A (x1 : List Int) : List G := [(.r (.at (.lst (.int .i64) x1 false)))]
noncomputable def f71_K (x1 : List Int) : List (Nat × Blk) := []
def f71_C (x1 : List Int) (r : Int) : Prop := CallOK cx 71 (f71_A x1) (f71_K x1) [] (f71_v r) (f71_k x1 r)

def f35_M : List Nat := []
noncomputable def f35_p1_H (x1 : List Int) (x2 : Int) : GS := ⟨[(0, (.r (.at (.lst (.int .i64) x1 false)))), (3, (.r (.at (.int .i64 x2))))], []⟩
noncomputable def f35_p1_x : f35_p1_R → GExit := fun
  | .c0 y0 => .ret
  | .c1 => (.exit 0)
noncomputable def f35_p1_s (x1 : List Int) : f35_p1_R → GS := fun
  | .c0 y0 => ⟨[(2, (.r (.at (.int .i64 y0))))], []⟩
  | .c1 => ⟨[(0, (.r (.at (.lst (.int .i64) x1 false))))], []⟩
def f35_p1_P (x1 : List Int) (x2 : Int) (r : f35_p1_R) : Prop := Lp cx f35_M 38 (part Try.f35 1) (f35_p1_H x1 x2) (f35_p1_x r) (f35_p1_s x1 r)
noncomputable def f35_v : Int → G := fun y0 => (.r (.at (.int .i64 y0)))
noncomputable def f35_k0 : Int → List (Nat × Blk) := fun y0 => []
noncomputable def f35_k (x1 : List Int) : Int → List (Nat × Blk) := fun y0 => []
noncomputable def f35_A (x1 : List Int) : List G := [(.r (.at (.lst (.int .i64) x1 false)))]
noncomputable def f35_K (x1 : List Int) : List (Nat × Blk) := []
def f35_C (x1 : List Int) (r : Int) : Prop := CallOK cx 35 (f35_A x1) (f35_K x1) [] (f35_v r) (f35_k x1 r)

def f62_M : List Nat := [34]
noncomputable def f62_p8_1_H (x1 : List Int) (x9 : List Int) (x10 : Int) (x12 : Int) (x13 : Int) (x14 : Int) : GS := ⟨[(0, (.r (.at (.lst (.int .i64) x1 false)))), (3, (.r (.at (.sl 34 0 (List.length x9))))), (4, (.r (.at (.int .i64 x10)))), (5, (.r (.at (.int .i64 x12)))), (6, (.r (.at (.int .i64 x13)))), (30, (.r (.at (.bool (decide (x14 ≥ x10))))))], [(34, (.gr (.int .i64) 3 x9 true))]⟩
noncomputable def f62_p8_1_x : Int → GExit := fun y0 => .normal
noncomputable def f62_p8_1_s (x1 : List Int) (x9 : List Int) (x10 : Int) (x12 : Int) (x13 : Int) (x14 : Int) : Int → GS := fun y0 => ⟨[(0, (.r (.at (.lst (.int .i64) x1 false)))), (3, (.r (.at (.sl 34 0 (List.length x9))))), (4, (.r (.at (.int .i64 x10)))), (5, (.r (.at (.int .i64 y0)))), (6, (.r (.at (.int .i64 x13))))], [(34, (.gr (.int .i64) 3 x9 true))]⟩
def f62_p8_1_P (x1 : List Int) (x9 : List Int) (x10 : Int) (x12 : Int) (x13 : Int) (x14 : Int) (r : Int) : Prop := Ex cx f62_M 38 (part Try.f62 8) (f62_p8_1_H x1 x9 x10 x12 x13 x14) (f62_p8_1_x r) (f62_p8_1_s x1 x9 x10 x12 x13 x14 r)
noncomputable def f62_p5_1_H (x1 : List Int) (x9 : List Int) (x10 : Int) (x12 : Int) (x13 : Int) : GS := ⟨[(0, (.r (.at (.lst (.int .i64) x1 false)))), (3, (.r (.at (.sl 34 0 (List.length x9))))), (4, (.r (.at (.int .i64 x10)))), (5, (.r (.at (.int .i64 x12)))), (6, (.r (.at (.int .i64 x13))))], [(34, (.gr (.int .i64) 3 x9 true))]⟩
noncomputable def f62_p5_1_x : Int → GExit := fun y0 => (.exit 2)
noncomputable def f62_p5_1_s (x1 : List Int) (x9 : List Int) (x10 : Int) : Int → GS := fun y0 => ⟨[(0, (.r (.at (.lst (.int .i64) x1 false)))), (3, (.r (.at (.sl 34 0 (List.length x9))))), (4, (.r (.at (.int .i64 x10)))), (5, (.r (.at (.int .i64 y0))))], [(34, (.gr (.int .i64) 3 x9 true))]⟩
def f62_p5_1_P (x1 : List Int) (x9 : List Int) (x10 : Int) (x12 : Int) (x13 : Int) (r : Int) : Prop := Lp cx f62_M 38 (part Try.f62 5) (f62_p5_1_H x1 x9 x10 x12 x13) (f62_p5_1_x r) (f62_p5_1_s x1 x9 x10 r)
noncomputable def f62_p1_H (x1 : List Int) (x10 : Int) (x9 : List Int) : GS := ⟨[(0, (.r (.at (.lst (.int .i64) x1 false)))), (3, (.r (.at (.sl 34 0 (List.length x9))))), (4, (.r (.at (.int .i64 x10))))], [(34, (.gr (.int .i64) 3 x9 true))]⟩
noncomputable def f62_p1_x : (List Int) → GExit := fun y0 => (.exit 0)
noncomputable def f62_p1_s (x1 : List Int) : (List Int) → GS := fun y0 => ⟨[(3, (.r (.at (.sl 34 0 (List.length y0)))))], [(34, (.gr (.int .i64) 3 y0 true))]⟩
def f62_p1_P (x1 : List Int) (x10 : Int) (x9 : List Int) (r : (List Int)) : Prop := Lp cx f62_M 38 (part Try.f62 1) (f62_p1_H x1 x10 x9) (f62_p1_x r) (f62_p1_s x1 r)
noncomputable def f62_v : (List Int) → G := fun y0 => (.r (.at (.lst (.int .i64) y0 false)))
noncomputable def f62_k0 : (List Int) → List (Nat × Blk) := fun y0 => []
noncomputable def f62_k (x1 : List Int) : (List Int) → List (Nat × Blk) := fun y0 => []
noncomputable def f62_A (x1 : List Int) : List G := [(.r (.at (.lst (.int .i64) x1 false)))]
noncomputable def f62_K (x1 : List Int) : List (Nat × Blk) := []
def f62_C (x1 : List Int) (r : (List Int)) : Prop := CallOK cx 62 (f62_A x1) (f62_K x1) [] (f62_v r) (f62_k x1 r)

def f26_M : List Nat := []
noncomputable def f26_v : ((List Int) × Int) → G := fun (y0, y1) => (.tup [(.at (.lst (.int .i64) y0 false)), (.at (.int .i64 y1))])
noncomputable def f26_k0 : ((List Int) × Int) → List (Nat × Blk) := fun (y0, y1) => []
noncomputable def f26_k (x1 : List Int) : ((List Int) × Int) → List (Nat × Blk) := fun (y0, y1) => []
noncomputable def f26_A (x1 : List Int) : List G := [(.r (.at (.lst (.int .i64) x1 false)))]
noncomputable def f26_K (x1 : List Int) : List (Nat × Blk) := []
def f26_C (x1 : List Int) (r : (List Int) × Int) : Prop := CallOK cx 26 (f26_A x1) (f26_K x1) [] (f26_v r) (f26_k x1 r)

def f66_M : List Nat := []
noncomputable def f66_p1_H (x1 : List Int) (x2 : Int) : GS := ⟨[(0, (.r (.at (.lst (.int .i64) x1 false)))), (3, (.r (.at (.int .i64 x2))))], []⟩
noncomputable def f66_p1_x : f66_p1_R → GExit := fun
  | .c0 => .ret
  | .c1 => (.exit 0)
noncomputable def f66_p1_s (x1 : List Int) : f66_p1_R → GS := fun
  | .c0 => ⟨[(2, (.r (.at (.bool false))))], []⟩
  | .c1 => ⟨[], []⟩
def f66_p1_P (x1 : List Int) (x2 : Int) (r : f66_p1_R) : Prop := Lp cx f66_M 16 (part Try.f66 1) (f66_p1_H x1 x2) (f66_p1_x r) (f66_p1_s x1 r)
noncomputable def f66_v : Bool → G := fun y0 => (.r (.at (.bool y0)))
noncomputable def f66_k0 : Bool → List (Nat × Blk) := fun y0 => []
noncomputable def f66_k (x1 : List Int) : Bool → List (Nat × Blk) := fun y0 => []
noncomputable def f66_A (x1 : List Int) : List G := [(.r (.at (.lst (.int .i64) x1 false)))]
noncomputable def f66_K (x1 : List Int) : List (Nat × Blk) := []
def f66_C (x1 : List Int) (r : Bool) : Prop := CallOK cx 66 (f66_A x1) (f66_K x1) [] (f66_v r) (f66_k x1 r)

def f88_M : List Nat := [36]
noncomputable def f88_p5_2_H (x1 : List Int) (x30 : Int) (x35 : Int) (x34 : List Int) : GS := ⟨[(3, (.r (.at (.sl 36 0 (List.length (([] : List Int) ++ x1)))))), (4, (.r (.at (.int .i64 x30)))), (5, (.r (.at (.int .i64 x35))))], [(36, (.gr (.int .i64) 3 x34 true))]⟩
noncomputable def f88_p5_2_x : (List Int) → GExit := fun y0 => (.exit 2)
noncomputable def f88_p5_2_s (x1 : List Int) (x30 : Int) : (List Int) → GS := fun y0 => ⟨[(3, (.r (.at (.sl 36 0 (List.length (([] : List Int) ++ x1)))))), (4, (.r (.at (.int .i64 x30))))], [(36, (.gr (.int .i64) 3 y0 true))]⟩
def f88_p5_2_P (x1 : List Int) (x30 : Int) (x35 : Int) (x34 : List Int) (r : (List Int)) : Prop := Lp cx f88_M 49 (part Try.f88 5) (f88_p5_2_H x1 x30 x35 x34) (f88_p5_2_x r) (f88_p5_2_s x1 x30 r)
noncomputable def f88_p1_H (x1 : List Int) (x30 : Int) (x29 : List Int) : GS := ⟨[(3, (.r (.at (.sl 36 0 (List.length (([] : List Int) ++ x1)))))), (4, (.r (.at (.int .i64 x30))))], [(36, (.gr (.int .i64) 3 x29 true))]⟩
noncomputable def f88_p1_x : (List Int) → GExit := fun y0 => (.exit 0)
noncomputable def f88_p1_s (x1 : List Int) : (List Int) → GS := fun y0 => ⟨[(3, (.r (.at (.sl 36 0 (List.length (([] : List Int) ++ x1))))))], [(36, (.gr (.int .i64) 3 y0 true))]⟩
def f88_p1_P (x1 : List Int) (x30 : Int) (x29 : List Int) (r : (List Int)) : Prop := Lp cx f88_M 49 (part Try.f88 1) (f88_p1_H x1 x30 x29) (f88_p1_x r) (f88_p1_s x1 r)
noncomputable def f88_v : (Nat × (List Int)) → G := fun (y0, y1) => (.r (.at (.sl 36 0 y0)))
noncomputable def f88_k0 : (Nat × (List Int)) → List (Nat × Blk) := fun (y0, y1) => [(36, (.gr (.int .i64) 3 y1 true))]
noncomputable def f88_k (x1 : List Int) : (Nat × (List Int)) → List (Nat × Blk) := fun (y0, y1) => [(36, (.gr (.int .i64) 3 y1 true))]
noncomputable def f88_A (x1 : List Int) : List G := [(.r (.at (.lst (.int .i64) x1 false)))]
noncomputable def f88_K (x1 : List Int) : List (Nat × Blk) := []
def f88_C (x1 : List Int) (r : Nat × (List Int)) : Prop := CallOK cx 88 (f88_A x1) (f88_K x1) [] (f88_v r) (f88_k x1 r)

def f67_M : List Nat := [35, 36, 37]
noncomputable def f67_p1_H (x1 : List Int) (x2 : Int) : GS := ⟨[(0, (.r (.at (.lst (.int .i64) x1 false)))), (3, (.r (.at (.int .i64 x2))))], []⟩
noncomputable def f67_p1_x : f67_p1_R → GExit := fun
  | .c0 y0 => .ret
  | .c1 => (.exit 0)
noncomputable def f67_p1_s (x1 : List Int) : f67_p1_R → GS := fun
  | .c0 y0 => ⟨[(2, (.r (.at (.lst (.int .i64) y0 false))))], []⟩
  | .c1 => ⟨[(0, (.r (.at (.lst (.int .i64) x1 false))))], []⟩
def f67_p1_P (x1 : List Int) (x2 : Int) (r : f67_p1_R) : Prop := Lp cx f67_M 45 (part Try.f67 1) (f67_p1_H x1 x2) (f67_p1_x r) (f67_p1_s x1 r)
noncomputable def f67_v : (List Int) → G := fun y0 => (.r (.at (.lst (.int .i64) y0 false)))
noncomputable def f67_k0 : (List Int) → List (Nat × Blk) := fun y0 => []
noncomputable def f67_k (x1 : List Int) : (List Int) → List (Nat × Blk) := fun y0 => []
noncomputable def f67_A (x1 : List Int) : List G := [(.r (.at (.lst (.int .i64) x1 false)))]
noncomputable def f67_K (x1 : List Int) : List (Nat × Blk) := []
def f67_C (x1 : List Int) (r : (List Int)) : Prop := CallOK cx 67 (f67_A x1) (f67_K x1) [] (f67_v r) (f67_k x1 r)

def f28_M : List Nat := []
noncomputable def f28_p0_H (x1 : List Int) (x2 : Int) (x3 : Bool) : GS := ⟨[(0, (.r (.at (.lst (.int .i64) x1 false)))), (4, (.r (.at (.int .i64 x2)))), (13, (.r (.at (.bool (!x3)))))], []⟩
noncomputable def f28_p0_x : Int → GExit := fun y0 => .normal
noncomputable def f28_p0_s (x1 : List Int) (x2 : Int) (x3 : Bool) : Int → GS := fun y0 => ⟨[(0, (.r (.at (.lst (.int .i64) x1 false)))), (4, (.r (.at (.int .i64 y0))))], []⟩
def f28_p0_P (x1 : List Int) (x2 : Int) (x3 : Bool) (r : Int) : Prop := Ex cx f28_M 19 (part Try.f28 0) (f28_p0_H x1 x2 x3) (f28_p0_x r) (f28_p0_s x1 x2 x3 r)
noncomputable def f28_v : ((List Int) × Int) → G := fun (y0, y1) => (.tup [(.at (.lst (.int .i64) y0 false)), (.at (.int .i64 y1))])
noncomputable def f28_k0 : ((List Int) × Int) → List (Nat × Blk) := fun (y0, y1) => []
noncomputable def f28_k (x1 : List Int) : ((List Int) × Int) → List (Nat × Blk) := fun (y0, y1) => []
noncomputable def f28_A (x1 : List Int) : List G := [(.r (.at (.lst (.int .i64) x1 false)))]
noncomputable def f28_K (x1 : List Int) : List (Nat × Blk) := []
def f28_C (x1 : List Int) (r : (List Int) × Int) : Prop := CallOK cx 28 (f28_A x1) (f28_K x1) [] (f28_v r) (f28_k x1 r)

def f60_M : List Nat := []
noncomputable def f60_p1_H (x1 : List Int) (x2 : Int) : GS := ⟨[(0, (.r (.at (.lst (.int .i64) x1 false)))), (3, (.r (.at (.int .i64 x2))))], []⟩
noncomputable def f60_p1_x : f60_p1_R → GExit := fun
  | .c0 => .ret
  | .c1 => (.exit 0)
noncomputable def f60_p1_s (x1 : List Int) : f60_p1_R → GS := fun
  | .c0 => ⟨[(2, (.r (.at (.bool false))))], []⟩
  | .c1 => ⟨[], []⟩
def f60_p1_P (x1 : List Int) (x2 : Int) (r : f60_p1_R) : Prop := Lp cx f60_M 20 (part Try.f60 1) (f60_p1_H x1 x2) (f60_p1_x r) (f60_p1_s x1 r)
noncomputable def f60_v : Bool → G := fun y0 => (.r (.at (.bool y0)))
noncomputable def f60_k0 : Bool → List (Nat × Blk) := fun y0 => []
noncomputable def f60_k (x1 : List Int) : Bool → List (Nat × Blk) := fun y0 => []
noncomputable def f60_A (x1 : List Int) : List G := [(.r (.at (.lst (.int .i64) x1 false)))]
noncomputable def f60_K (x1 : List Int) : List (Nat × Blk) := []
def f60_C (x1 : List Int) (r : Bool) : Prop := CallOK cx 60 (f60_A x1) (f60_K x1) [] (f60_v r) (f60_k x1 r)

def f88_1_M : List Nat := [39]
noncomputable def f88_1_p5_2_H (x1 : List Int) (x30 : Int) (x35 : Int) (x34 : List Int) : GS := ⟨[(3, (.r (.at (.sl 39 0 (List.length (([] : List Int) ++ x1)))))), (4, (.r (.at (.int .i64 x30)))), (5, (.r (.at (.int .i64 x35))))], [(39, (.gr (.int .i64) 3 x34 true))]⟩
noncomputable def f88_1_p5_2_x : (List Int) → GExit := fun y0 => (.exit 2)
noncomputable def f88_1_p5_2_s (x1 : List Int) (x30 : Int) : (List Int) → GS := fun y0 => ⟨[(3, (.r (.at (.sl 39 0 (List.length (([] : List Int) ++ x1)))))), (4, (.r (.at (.int .i64 x30))))], [(39, (.gr (.int .i64) 3 y0 true))]⟩
def f88_1_p5_2_P (x1 : List Int) (x30 : Int) (x35 : Int) (x34 : List Int) (r : (List Int)) : Prop := Lp cx f88_1_M 49 (part Try.f88 5) (f88_1_p5_2_H x1 x30 x35 x34) (f88_1_p5_2_x r) (f88_1_p5_2_s x1 x30 r)
noncomputable def f88_1_p1_H (x1 : List Int) (x30 : Int) (x29 : List Int) : GS := ⟨[(3, (.r (.at (.sl 39 0 (List.length (([] : List Int) ++ x1)))))), (4, (.r (.at (.int .i64 x30))))], [(39, (.gr (.int .i64) 3 x29 true))]⟩
noncomputable def f88_1_p1_x : (List Int) → GExit := fun y0 => (.exit 0)
noncomputable def f88_1_p1_s (x1 : List Int) : (List Int) → GS := fun y0 => ⟨[(3, (.r (.at (.sl 39 0 (List.length (([] : List Int) ++ x1))))))], [(39, (.gr (.int .i64) 3 y0 true))]⟩
def f88_1_p1_P (x1 : List Int) (x30 : Int) (x29 : List Int) (r : (List Int)) : Prop := Lp cx f88_1_M 49 (part Try.f88 1) (f88_1_p1_H x1 x30 x29) (f88_1_p1_x r) (f88_1_p1_s x1 r)
noncomputable def f88_1_v : (List Int) → G := fun y0 => (.r (.at (.lst (.int .i64) y0 false)))
noncomputable def f88_1_k0 : (List Int) → List (Nat × Blk) := fun y0 => []
noncomputable def f88_1_k (x1 : List Int) : (List Int) → List (Nat × Blk) := fun y0 => []
noncomputable def f88_1_A (x1 : List Int) : List G := [(.r (.at (.lst (.int .i64) x1 false)))]
noncomputable def f88_1_K (x1 : List Int) : List (Nat × Blk) := []
def f88_1_C (x1 : List Int) (r : (List Int)) : Prop := CallOK cx 88 (f88_1_A x1) (f88_1_K x1) [] (f88_1_v r) (f88_1_k x1 r)

def f69_M : List Nat := [38, 40]
noncomputable def f69_p1_H (x1 : List Int) (x2 : Int) : GS := ⟨[(0, (.r (.at (.lst (.int .i64) x1 false)))), (3, (.r (.at (.int .i64 x2))))], []⟩
noncomputable def f69_p1_x : f69_p1_R → GExit := fun
  | .c0 y0 => .ret
  | .c1 => (.exit 0)
noncomputable def f69_p1_s (x1 : List Int) : f69_p1_R → GS := fun
  | .c0 y0 => ⟨[(2, (.r (.at (.lst (.int .i64) y0 false))))], []⟩
  | .c1 => ⟨[(0, (.r (.at (.lst (.int .i64) x1 false))))], []⟩
def f69_p1_P (x1 : List Int) (x2 : Int) (r : f69_p1_R) : Prop := Lp cx f69_M 45 (part Try.f69 1) (f69_p1_H x1 x2) (f69_p1_x r) (f69_p1_s x1 r)
noncomputable def f69_v : (List Int) → G := fun y0 => (.r (.at (.lst (.int .i64) y0 false)))
noncomputable def f69_k0 : (List Int) → List (Nat × Blk) := fun y0 => []
noncomputable def f69_k (x1 : List Int) : (List Int) → List (Nat × Blk) := fun y0 => []
noncomputable def f69_A (x1 : List Int) : List G := [(.r (.at (.lst (.int .i64) x1 false)))]
noncomputable def f69_K (x1 : List Int) : List (Nat × Blk) := []
def f69_C (x1 : List Int) (r : (List Int)) : Prop := CallOK cx 69 (f69_A x1) (f69_K x1) [] (f69_v r) (f69_k x1 r)

def f30_M : List Nat := []
noncomputable def f30_p0_H (x1 : List Int) (x2 : Int) (x3 : Bool) : GS := ⟨[(0, (.r (.at (.lst (.int .i64) x1 false)))), (4, (.r (.at (.int .i64 x2)))), (13, (.r (.at (.bool (!x3)))))], []⟩
noncomputable def f30_p0_x : Int → GExit := fun y0 => .normal
noncomputable def f30_p0_s (x1 : List Int) (x2 : Int) (x3 : Bool) : Int → GS := fun y0 => ⟨[(0, (.r (.at (.lst (.int .i64) x1 false)))), (4, (.r (.at (.int .i64 y0))))], []⟩
def f30_p0_P (x1 : List Int) (x2 : Int) (x3 : Bool) (r : Int) : Prop := Ex cx f30_M 19 (part Try.f30 0) (f30_p0_H x1 x2 x3) (f30_p0_x r) (f30_p0_s x1 x2 x3 r)
noncomputable def f30_v : ((List Int) × Int) → G := fun (y0, y1) => (.tup [(.at (.lst (.int .i64) y0 false)), (.at (.int .i64 y1))])
noncomputable def f30_k0 : ((List Int) × Int) → List (Nat × Blk) := fun (y0, y1) => []
noncomputable def f30_k (x1 : List Int) : ((List Int) × Int) → List (Nat × Blk) := fun (y0, y1) => []
noncomputable def f30_A (x1 : List Int) : List G := [(.r (.at (.lst (.int .i64) x1 false)))]
noncomputable def f30_K (x1 : List Int) : List (Nat × Blk) := []
def f30_C (x1 : List Int) (r : (List Int) × Int) : Prop := CallOK cx 30 (f30_A x1) (f30_K x1) [] (f30_v r) (f30_k x1 r)

def f33_M : List Nat := [41]
noncomputable def f33_p0_H (x1 : List Int) (x2 : Int) (x3 : Bool) : GS := ⟨[(0, (.r (.at (.lst (.int .i64) x1 false)))), (4, (.r (.at (.int .i64 x2)))), (19, (.r (.at (.bool (!x3)))))], []⟩
noncomputable def f33_p0_x : Int → GExit := fun y0 => .normal
noncomputable def f33_p0_s (x1 : List Int) (x2 : Int) (x3 : Bool) : Int → GS := fun y0 => ⟨[(0, (.r (.at (.lst (.int .i64) x1 false)))), (4, (.r (.at (.int .i64 y0))))], []⟩
def f33_p0_P (x1 : List Int) (x2 : Int) (x3 : Bool) (r : Int) : Prop := Ex cx f33_M 106 (part Try.f33 0) (f33_p0_H x1 x2 x3) (f33_p0_x r) (f33_p0_s x1 x2 x3 r)
noncomputable def f33_p1_H (x1 : List Int) (x4 : Int) : GS := ⟨[(0, (.r (.at (.lst (.int .i64) x1 false)))), (4, (.r (.at (.int .i64 x4)))), (26, (.r (.at (.bool (((List.length x1 : Nat) : Int) == 0)))))], []⟩
noncomputable def f33_p1_x : Int → GExit := fun y0 => .normal
noncomputable def f33_p1_s (x1 : List Int) (x4 : Int) : Int → GS := fun y0 => ⟨[(0, (.r (.at (.lst (.int .i64) x1 false)))), (4, (.r (.at (.int .i64 y0))))], []⟩
def f33_p1_P (x1 : List Int) (x4 : Int) (r : Int) : Prop := Ex cx f33_M 106 (part Try.f33 1) (f33_p1_H x1 x4) (f33_p1_x r) (f33_p1_s x1 x4 r)
noncomputable def f33_p4_H (x1 : List Int) (x6 : Int) (x7 : Int) : GS := ⟨[(0, (.r (.at (.lst (.int .i64) x1 false)))), (5, (.r (.at (.int .i64 ((List.length x1 : Nat) : Int))))), (6, (.r (.at (.int .i64 x6)))), (7, (.r (.at (.int .i64 x7))))], []⟩
noncomputable def f33_p4_x : Int → GExit := fun y0 => (.exit 0)
noncomputable def f33_p4_s (x1 : List Int) (x6 : Int) : Int → GS := fun y0 => ⟨[(0, (.r (.at (.lst (.int .i64) x1 false)))), (5, (.r (.at (.int .i64 ((List.length x1 : Nat) : Int))))), (6, (.r (.at (.int .i64 x6)))), (7, (.r (.at (.int .i64 y0))))], []⟩
def f33_p4_P (x1 : List Int) (x6 : Int) (x7 : Int) (r : Int) : Prop := Lp cx f33_M 106 (part Try.f33 4) (f33_p4_H x1 x6 x7) (f33_p4_x r) (f33_p4_s x1 x6 r)
noncomputable def f33_p10_H (x6 : Int) (x1 : List Int) (x14 : Int) (x13 : List Int) : GS := ⟨[(6, (.r (.at (.int .i64 x6)))), (8, (.r (.at (.sl 41 0 (Int.toNat (w64 (((List.length x1 : Nat) : Int) - 1))))))), (9, (.r (.at (.int .i64 x14))))], [(41, (.gr (.int .i64) 3 x13 true))]⟩
noncomputable def f33_p10_x : (List Int) → GExit := fun y0 => (.exit 2)
noncomputable def f33_p10_s (x6 : Int) (x1 : List Int) : (List Int) → GS := fun y0 => ⟨[(8, (.r (.at (.sl 41 0 (Int.toNat (w64 (((List.length x1 : Nat) : Int) - 1)))))))], [(41, (.gr (.int .i64) 3 y0 true))]⟩
def f33_p10_P (x6 : Int) (x1 : List Int) (x14 : Int) (x13 : List Int) (r : (List Int)) : Prop := Lp cx f33_M 106 (part Try.f33 10) (f33_p10_H x6 x1 x14 x13) (f33_p10_x r) (f33_p10_s x6 x1 r)
noncomputable def f33_p14_H (x10 : Int) (x1 : List Int) (x23 : Int) (x22 : List Int) : GS := ⟨[(7, (.r (.at (.int .i64 x10)))), (8, (.r (.at (.sl 41 0 (List.length (([] : List Int) ++ x1)))))), (10, (.r (.at (.int .i64 x23))))], [(41, (.gr (.int .i64) 3 x22 true))]⟩
noncomputable def f33_p14_x : (List Int) → GExit := fun y0 => (.exit 4)
noncomputable def f33_p14_s (x10 : Int) (x1 : List Int) : (List Int) → GS := fun y0 => ⟨[(7, (.r (.at (.int .i64 x10)))), (8, (.r (.at (.sl 41 0 (List.length (([] : List Int) ++ x1))))))], [(41, (.gr (.int .i64) 3 y0 true))]⟩
def f33_p14_P (x10 : Int) (x1 : List Int) (x23 : Int) (x22 : List Int) (r : (List Int)) : Prop := Lp cx f33_M 106 (part Try.f33 14) (f33_p14_H x10 x1 x23 x22) (f33_p14_x r) (f33_p14_s x10 x1 r)
noncomputable def f33_p10_1_H (x6 : Int) (x1 : List Int) (x29 : Int) (x28 : List Int) : GS := ⟨[(6, (.r (.at (.int .i64 x6)))), (8, (.r (.at (.sl 41 0 (Int.toNat (w64 (((List.length x1 : Nat) : Int) - 1))))))), (9, (.r (.at (.int .i64 x29))))], [(41, (.gr (.int .i64) 3 x28 true))]⟩
noncomputable def f33_p10_1_x : (List Int) → GExit := fun y0 => (.exit 2)
noncomputable def f33_p10_1_s (x6 : Int) (x1 : List Int) : (List Int) → GS := fun y0 => ⟨[(8, (.r (.at (.sl 41 0 (Int.toNat (w64 (((List.length x1 : Nat) : Int) - 1)))))))], [(41, (.gr (.int .i64) 3 y0 true))]⟩
def f33_p10_1_P (x6 : Int) (x1 : List Int) (x29 : Int) (x28 : List Int) (r : (List Int)) : Prop := Lp cx f33_M 106 (part Try.f33 10) (f33_p10_1_H x6 x1 x29 x28) (f33_p10_1_x r) (f33_p10_1_s x6 x1 r)
noncomputable def f33_p14_1_H (x10 : Int) (x1 : List Int) (x38 : Int) (x37 : List Int) : GS := ⟨[(7, (.r (.at (.int .i64 x10)))), (8, (.r (.at (.sl 41 0 (List.length (([] : List Int) ++ x1)))))), (10, (.r (.at (.int .i64 x38))))], [(41, (.gr (.int .i64) 3 x37 true))]⟩
noncomputable def f33_p14_1_x : (List Int) → GExit := fun y0 => (.exit 4)
noncomputable def f33_p14_1_s (x10 : Int) (x1 : List Int) : (List Int) → GS := fun y0 => ⟨[(7, (.r (.at (.int .i64 x10)))), (8, (.r (.at (.sl 41 0 (List.length (([] : List Int) ++ x1))))))], [(41, (.gr (.int .i64) 3 y0 true))]⟩
def f33_p14_1_P (x10 : Int) (x1 : List Int) (x38 : Int) (x37 : List Int) (r : (List Int)) : Prop := Lp cx f33_M 106 (part Try.f33 14) (f33_p14_1_H x10 x1 x38 x37) (f33_p14_1_x r) (f33_p14_1_s x10 x1 r)
noncomputable def f33_v : ((List Int) × Int) → G := fun (y0, y1) => (.tup [(.at (.lst (.int .i64) y0 false)), (.at (.int .i64 y1))])
noncomputable def f33_k0 : ((List Int) × Int) → List (Nat × Blk) := fun (y0, y1) => []
noncomputable def f33_k (x1 : List Int) : ((List Int) × Int) → List (Nat × Blk) := fun (y0, y1) => []
noncomputable def f33_A (x1 : List Int) : List G := [(.r (.at (.lst (.int .i64) x1 false)))]
noncomputable def f33_K (x1 : List Int) : List (Nat × Blk) := []
def f33_C (x1 : List Int) (r : (List Int) × Int) : Prop := CallOK cx 33 (f33_A x1) (f33_K x1) [] (f33_v r) (f33_k x1 r)

def f4_M : List Nat := []
noncomputable def f4_v : Bool → G := fun y0 => (.r (.at (.bool y0)))
noncomputable def f4_k0 : Bool → List (Nat × Blk) := fun y0 => []
noncomputable def f4_k (x1 : List Int) : Bool → List (Nat × Blk) := fun y0 => []
noncomputable def f4_A (x1 : List Int) : List G := [(.r (.at (.lst (.int .i64) x1 false)))]
noncomputable def f4_K (x1 : List Int) : List (Nat × Blk) := []
def f4_C (x1 : List Int) (r : Bool) : Prop := CallOK cx 4 (f4_A x1) (f4_K x1) [] (f4_v r) (f4_k x1 r)

end Go.Gh.Bunch
