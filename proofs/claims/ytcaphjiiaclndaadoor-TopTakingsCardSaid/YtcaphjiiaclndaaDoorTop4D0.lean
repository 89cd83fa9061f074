/- Top4D0: printed by wip/tool/gx.py -/
import Derived.Test.YtcaphjiiaclndaaDoorTopA
import Derived.Test.YtcaphjiiaclndaaDoorGiC
import Derived.Test.YtcaphjiiaclndaaDoorTop4N0
namespace Go.Gh.Top
set_option linter.unusedVariables false
set_option linter.unusedSimpArgs false
open Go.Proofs
abbrev oL (l : List Nat) : En := .co (.live l)
abbrev oK (l : List Nat) : En := .co (.keep l)
abbrev oV (n : Int) : En := .v (.ipt (.int .i64) n)
abbrev oP (e : GExit) (s : GS) : En := .lp e s.env s.hp

def f16_M : List Nat := []
noncomputable def f16_v : (List Int) → G := fun y0 => (GL y0)
noncomputable def f16_k0 : (List Int) → List (Nat × Blk) := fun y0 => []
noncomputable def f16_k (x1 : List Int) : (List Int) → List (Nat × Blk) := fun y0 => []
noncomputable def f16_A (x1 : List Int) : List G := [(GL x1)]
noncomputable def f16_K (x1 : List Int) : List (Nat × Blk) := []
def f16_C (x1 : List Int) (r : (List Int)) : Prop := CallOK cx 16 (f16_A x1) (f16_K x1) [] (f16_v r) (f16_k x1 r)

def f117_M : List Nat := []
noncomputable def f117_p1_H (x2 : Int) (x3 : ByteArray) : GS := ⟨[(0, (.r (.at (.str x3)))), (1, (.r (.at (.int .u8 x2))))], []⟩
noncomputable def f117_p1_x : ByteArray → GExit := fun y0 => (.exit 0)
noncomputable def f117_p1_s (x2 : Int) : ByteArray → GS := fun y0 => ⟨[(0, (.r (.at (.str y0))))], []⟩
def f117_p1_P (x2 : Int) (x3 : ByteArray) (r : ByteArray) : Prop := Lp cx f117_M 23 (part Tryd.f117 1) (f117_p1_H x2 x3) (f117_p1_x r) (f117_p1_s x2 r)
noncomputable def f117_v : ByteArray → G := fun y0 => (.r (.at (.str y0)))
noncomputable def f117_k0 : ByteArray → List (Nat × Blk) := fun y0 => []
noncomputable def f117_k (x1 : ByteArray) (x2 : Int) : ByteArray → List (Nat × Blk) := fun y0 => []
noncomputable def f117_A (x1 : ByteArray) (x2 : Int) : List G := [(.r (.at (.str x1))), (.r (.at (.int .u8 x2)))]
noncomputable def f117_K (x1 : ByteArray) (x2 : Int) : List (Nat × Blk) := []
def f117_C (x1 : ByteArray) (x2 : Int) (r : ByteArray) : Prop := CallOK cx 117 (f117_A x1 x2) (f117_K x1 x2) [] (f117_v r) (f117_k x1 x2 r)

def f116_M : List Nat := []
noncomputable def f116_p1_H (x2 : Int) (x3 : ByteArray) : GS := ⟨[(0, (.r (.at (.str x3)))), (1, (.r (.at (.int .u8 x2))))], []⟩
noncomputable def f116_p1_x : ByteArray → GExit := fun y0 => (.exit 0)
noncomputable def f116_p1_s (x2 : Int) : ByteArray → GS := fun y0 => ⟨[(0, (.r (.at (.str y0))))], []⟩
def f116_p1_P (x2 : Int) (x3 : ByteArray) (r : ByteArray) : Prop := Lp cx f116_M 17 (part Tryd.f116 1) (f116_p1_H x2 x3) (f116_p1_x r) (f116_p1_s x2 r)
noncomputable def f116_v : ByteArray → G := fun y0 => (.r (.at (.str y0)))
noncomputable def f116_k0 : ByteArray → List (Nat × Blk) := fun y0 => []
noncomputable def f116_k (x1 : ByteArray) (x2 : Int) : ByteArray → List (Nat × Blk) := fun y0 => []
noncomputable def f116_A (x1 : ByteArray) (x2 : Int) : List G := [(.r (.at (.str x1))), (.r (.at (.int .u8 x2)))]
noncomputable def f116_K (x1 : ByteArray) (x2 : Int) : List (Nat × Blk) := []
def f116_C (x1 : ByteArray) (x2 : Int) (r : ByteArray) : Prop := CallOK cx 116 (f116_A x1 x2) (f116_K x1 x2) [] (f116_v r) (f116_k x1 x2 r)

def f118_M : List Nat := [4]
noncomputable def f118_p1_H (x1 : ByteArray) (x3 : Int) (x4 : List Bool) : GS := ⟨[(0, (.r (.at (.str x1)))), (2, (.r (.at (.ptr 4 0 0)))), (4, (GI x3))], [(4, (.var [.arr .bool 256 x4]))]⟩
noncomputable def f118_p1_x : f118_p1_R → GExit := fun
  | .c0 y0 => .ret
  | .c1 y0 => (.exit 0)
noncomputable def f118_p1_s (x1 : ByteArray) : f118_p1_R → GS := fun
  | .c0 y0 => ⟨[(2, (.r (.at (.ptr 4 0 0)))), (3, (.r (.at (.bool false))))], [(4, (.var [.arr .bool 256 y0]))]⟩
  | .c1 y0 => ⟨[(2, (.r (.at (.ptr 4 0 0))))], [(4, (.var [.arr .bool 256 y0]))]⟩
def f118_p1_P (x1 : ByteArray) (x3 : Int) (x4 : List Bool) (r : f118_p1_R) : Prop := Lp cx f118_M 21 (part Tryd.f118 1) (f118_p1_H x1 x3 x4) (f118_p1_x r) (f118_p1_s x1 r)
noncomputable def f118_v : ((List Bool) × Bool) → G := fun (y0, y1) => (.tup [(.agg [.arr .bool 256 y0]), (.at (.bool y1))])
noncomputable def f118_k0 : ((List Bool) × Bool) → List (Nat × Blk) := fun (y0, y1) => []
noncomputable def f118_k (x1 : ByteArray) : ((List Bool) × Bool) → List (Nat × Blk) := fun (y0, y1) => []
noncomputable def f118_A (x1 : ByteArray) : List G := [(.r (.at (.str x1)))]
noncomputable def f118_K (x1 : ByteArray) : List (Nat × Blk) := []
def f118_C (x1 : ByteArray) (r : (List Bool) × Bool) : Prop := CallOK cx 118 (f118_A x1) (f118_K x1) [] (f118_v r) (f118_k x1 r)

def f137_M : List Nat := []
noncomputable def f137_v : Bool → G := fun y0 => (GB y0)
noncomputable def f137_k0 : Bool → List (Nat × Blk) := fun y0 => []
noncomputable def f137_k (x1 : Int) (x2 : List Bool) : Bool → List (Nat × Blk) := fun y0 => [(5, (.var [.arr .bool 256 x2]))]
noncomputable def f137_A (x1 : Int) (x2 : List Bool) : List G := [(.r (.at (.ptr 5 0 0))), (.r (.at (.int .u8 x1)))]
noncomputable def f137_K (x1 : Int) (x2 : List Bool) : List (Nat × Blk) := [(5, (.var [.arr .bool 256 x2]))]
def f137_C (x1 : Int) (x2 : List Bool) (r : Bool) : Prop := CallOK cx 137 (f137_A x1 x2) (f137_K x1 x2) [] (f137_v r) (f137_k x1 x2 r)

def f120_M : List Nat := []
noncomputable def f120_p1_H (x2 : List Bool) (x3 : ByteArray) : GS := ⟨[(0, (.r (.at (.str x3)))), (1, (.r (.at (.ptr 5 0 0))))], [(5, (.var [.arr .bool 256 x2]))]⟩
noncomputable def f120_p1_x : ByteArray → GExit := fun y0 => (.exit 0)
noncomputable def f120_p1_s (x2 : List Bool) : ByteArray → GS := fun y0 => ⟨[(0, (.r (.at (.str y0))))], [(5, (.var [.arr .bool 256 x2]))]⟩
def f120_p1_P (x2 : List Bool) (x3 : ByteArray) (r : ByteArray) : Prop := Lp cx f120_M 22 (part Tryd.f120 1) (f120_p1_H x2 x3) (f120_p1_x r) (f120_p1_s x2 r)
noncomputable def f120_v : ByteArray → G := fun y0 => (.r (.at (.str y0)))
noncomputable def f120_k0 : ByteArray → List (Nat × Blk) := fun y0 => []
noncomputable def f120_k (x1 : ByteArray) (x2 : List Bool) : ByteArray → List (Nat × Blk) := fun y0 => [(5, (.var [.arr .bool 256 x2]))]
noncomputable def f120_A (x1 : ByteArray) (x2 : List Bool) : List G := [(.r (.at (.str x1))), (.r (.at (.ptr 5 0 0)))]
noncomputable def f120_K (x1 : ByteArray) (x2 : List Bool) : List (Nat × Blk) := [(5, (.var [.arr .bool 256 x2]))]
def f120_C (x1 : ByteArray) (x2 : List Bool) (r : ByteArray) : Prop := CallOK cx 120 (f120_A x1 x2) (f120_K x1 x2) [] (f120_v r) (f120_k x1 x2 r)

def f119_M : List Nat := []
noncomputable def f119_p1_H (x2 : List Bool) (x3 : ByteArray) : GS := ⟨[(0, (.r (.at (.str x3)))), (1, (.r (.at (.ptr 5 0 0))))], [(5, (.var [.arr .bool 256 x2]))]⟩
noncomputable def f119_p1_x : ByteArray → GExit := fun y0 => (.exit 0)
noncomputable def f119_p1_s (x2 : List Bool) : ByteArray → GS := fun y0 => ⟨[(0, (.r (.at (.str y0))))], [(5, (.var [.arr .bool 256 x2]))]⟩
def f119_p1_P (x2 : List Bool) (x3 : ByteArray) (r : ByteArray) : Prop := Lp cx f119_M 16 (part Tryd.f119 1) (f119_p1_H x2 x3) (f119_p1_x r) (f119_p1_s x2 r)
noncomputable def f119_v : ByteArray → G := fun y0 => (.r (.at (.str y0)))
noncomputable def f119_k0 : ByteArray → List (Nat × Blk) := fun y0 => []
noncomputable def f119_k (x1 : ByteArray) (x2 : List Bool) : ByteArray → List (Nat × Blk) := fun y0 => [(5, (.var [.arr .bool 256 x2]))]
noncomputable def f119_A (x1 : ByteArray) (x2 : List Bool) : List G := [(.r (.at (.str x1))), (.r (.at (.ptr 5 0 0)))]
noncomputable def f119_K (x1 : ByteArray) (x2 : List Bool) : List (Nat × Blk) := [(5, (.var [.arr .bool 256 x2]))]
def f119_C (x1 : ByteArray) (x2 : List Bool) (r : ByteArray) : Prop := CallOK cx 119 (f119_A x1 x2) (f119_K x1 x2) [] (f119_v r) (f119_k x1 x2 r)

def f90_M : List Nat := [5]
noncomputable def f90_v : ByteArray → G := fun y0 => (.r (.at (.str y0)))
noncomputable def f90_k0 : ByteArray → List (Nat × Blk) := fun y0 => []
noncomputable def f90_k (x1 x2 : ByteArray) : ByteArray → List (Nat × Blk) := fun y0 => []
noncomputable def f90_A (x1 x2 : ByteArray) : List G := [(.r (.at (.str x1))), (.r (.at (.str x2)))]
noncomputable def f90_K (x1 x2 : ByteArray) : List (Nat × Blk) := []
def f90_C (x1 x2 : ByteArray) (r : ByteArray) : Prop := CallOK cx 90 (f90_A x1 x2) (f90_K x1 x2) [] (f90_v r) (f90_k x1 x2 r)

def f50_M : List Nat := []
noncomputable def f50_v : Int → G := fun y0 => (GI y0)
noncomputable def f50_k0 : Int → List (Nat × Blk) := fun y0 => []
noncomputable def f50_k (x1 : ByteArray) : Int → List (Nat × Blk) := fun y0 => []
noncomputable def f50_A (x1 : ByteArray) : List G := [(.r (.at (.str x1)))]
noncomputable def f50_K (x1 : ByteArray) : List (Nat × Blk) := []
def f50_C (x1 : ByteArray) (r : Int) : Prop := CallOK cx 50 (f50_A x1) (f50_K x1) [] (f50_v r) (f50_k x1 r)

def f91_M : List Nat := []
noncomputable def f91_v : Bool → G := fun y0 => (GB y0)
noncomputable def f91_k0 : Bool → List (Nat × Blk) := fun y0 => []
noncomputable def f91_k (x1 x2 x3 : Int) : Bool → List (Nat × Blk) := fun y0 => []
noncomputable def f91_A (x1 x2 x3 : Int) : List G := [(GI x1), (GI x2), (GI x3)]
noncomputable def f91_K (x1 x2 x3 : Int) : List (Nat × Blk) := []
def f91_C (x1 x2 x3 : Int) (r : Bool) : Prop := CallOK cx 91 (f91_A x1 x2 x3) (f91_K x1 x2 x3) [] (f91_v r) (f91_k x1 x2 x3 r)

def f52_M : List Nat := []
noncomputable def f52_p0_H (x3 : Int) (x4 : Bool) : GS := ⟨[(5, (GI x3)), (14, (.r (.at (.bool (!x4)))))], []⟩
noncomputable def f52_p0_x : Int → GExit := fun y0 => .normal
noncomputable def f52_p0_s (x3 : Int) (x4 : Bool) : Int → GS := fun y0 => ⟨[(5, (GI y0))], []⟩
def f52_p0_P (x3 : Int) (x4 : Bool) (r : Int) : Prop := Ex cx f52_M 16 (part Tryd.f52 0) (f52_p0_H x3 x4) (f52_p0_x r) (f52_p0_s x3 x4 r)
noncomputable def f52_v : Int → G := fun y0 => (GI y0)
noncomputable def f52_k0 : Int → List (Nat × Blk) := fun y0 => []
noncomputable def f52_k (x1 : ByteArray) (x2 : Int) : Int → List (Nat × Blk) := fun y0 => []
noncomputable def f52_A (x1 : ByteArray) (x2 : Int) : List G := [(.r (.at (.str x1))), (GI x2)]
noncomputable def f52_K (x1 : ByteArray) (x2 : Int) : List (Nat × Blk) := []
def f52_C (x1 : ByteArray) (x2 : Int) (r : Int) : Prop := CallOK cx 52 (f52_A x1 x2) (f52_K x1 x2) [] (f52_v r) (f52_k x1 x2 r)

def f51_M : List Nat := [6, 7]
noncomputable def f51_p4_1_H (x7 : Int) (x6 : List Int) (x8 : ByteArray) (x9 : Int) : GS := ⟨[(1, (GI x7)), (5, (.r (.at (.sl 6 0 (List.length x6))))), (12, (.r (.at (.ptr 7 0 0)))), (17, (.r (.at (.bool ((strAt x8 x9) == 99)))))], [(6, (.gr (.int .i64) 3 x6 true)), (7, (.itb x8 (x9 + 1)))]⟩
noncomputable def f51_p4_1_x : Int → GExit := fun y0 => .normal
noncomputable def f51_p4_1_s (x7 : Int) (x6 : List Int) (x8 : ByteArray) (x9 : Int) : Int → GS := fun y0 => ⟨[(1, (GI y0)), (5, (.r (.at (.sl 6 0 (List.length x6))))), (12, (.r (.at (.ptr 7 0 0))))], [(6, (.gr (.int .i64) 3 x6 true)), (7, (.itb x8 (x9 + 1)))]⟩
def f51_p4_1_P (x7 : Int) (x6 : List Int) (x8 : ByteArray) (x9 : Int) (r : Int) : Prop := Ex cx f51_M 27 (part Tryd.f51 4) (f51_p4_1_H x7 x6 x8 x9) (f51_p4_1_x r) (f51_p4_1_s x7 x6 x8 x9 r)
noncomputable def f51_p1_H (x7 : Int) (x6 : List Int) (x8 : ByteArray) (x9 : Int) : GS := ⟨[(1, (GI x7)), (5, (.r (.at (.sl 6 0 (List.length x6))))), (12, (.r (.at (.ptr 7 0 0))))], [(6, (.gr (.int .i64) 3 x6 true)), (7, (.itb x8 x9))]⟩
noncomputable def f51_p1_x : (List Int) → GExit := fun y0 => (.exit 0)
noncomputable def f51_p1_s : (List Int) → GS := fun y0 => ⟨[(5, (.r (.at (.sl 6 0 (List.length y0)))))], [(6, (.gr (.int .i64) 3 y0 true))]⟩
def f51_p1_P (x7 : Int) (x6 : List Int) (x8 : ByteArray) (x9 : Int) (r : (List Int)) : Prop := Lp cx f51_M 27 (part Tryd.f51 1) (f51_p1_H x7 x6 x8 x9) (f51_p1_x r) (f51_p1_s r)
noncomputable def f51_v : (List Int) → G := fun y0 => (GL y0)
noncomputable def f51_k0 : (List Int) → List (Nat × Blk) := fun y0 => []
noncomputable def f51_k (x1 : ByteArray) (x2 : Int) : (List Int) → List (Nat × Blk) := fun y0 => []
noncomputable def f51_A (x1 : ByteArray) (x2 : Int) : List G := [(.r (.at (.str x1))), (GI x2)]
noncomputable def f51_K (x1 : ByteArray) (x2 : Int) : List (Nat × Blk) := []
def f51_C (x1 : ByteArray) (x2 : Int) (r : (List Int)) : Prop := CallOK cx 51 (f51_A x1 x2) (f51_K x1 x2) [] (f51_v r) (f51_k x1 x2 r)

def f93_M : List Nat := []
noncomputable def f93_v : Bool → G := fun y0 => (GB y0)
noncomputable def f93_k0 : Bool → List (Nat × Blk) := fun y0 => []
noncomputable def f93_k (x1 : Int) : Bool → List (Nat × Blk) := fun y0 => []
noncomputable def f93_A (x1 : Int) : List G := [(GI x1)]
noncomputable def f93_K (x1 : Int) : List (Nat × Blk) := []
def f93_C (x1 : Int) (r : Bool) : Prop := CallOK cx 93 (f93_A x1) (f93_K x1) [] (f93_v r) (f93_k x1 r)

def f92_M : List Nat := []
noncomputable def f92_p1_H (x1 : List Int) (x2 : Int) : GS := ⟨[(0, (GL x1)), (1, (.r (.at (.fn 93)))), (7, (.r (.at (.int .i64 ((List.length x1 : Nat) : Int))))), (8, (GI x2))], []⟩
noncomputable def f92_p1_x : f92_p1_R → GExit := fun
  | .c0 y0 => .ret
  | .c1 => (.exit 0)
noncomputable def f92_p1_s (x1 : List Int) : f92_p1_R → GS := fun
  | .c0 y0 => ⟨[(4, (GI y0))], []⟩
  | .c1 => ⟨[], []⟩
def f92_p1_P (x1 : List Int) (x2 : Int) (r : f92_p1_R) : Prop := Lp cx f92_M 19 (part Tryd.f92 1) (f92_p1_H x1 x2) (f92_p1_x r) (f92_p1_s x1 r)
noncomputable def f92_v : Int → G := fun y0 => (GI y0)
noncomputable def f92_k0 : Int → List (Nat × Blk) := fun y0 => []
noncomputable def f92_k (x1 : List Int) : Int → List (Nat × Blk) := fun y0 => []
noncomputable def f92_A (x1 : List Int) : List G := [(GL x1), (.r (.at (.fn 93)))]
noncomputable def f92_K (x1 : List Int) : List (Nat × Blk) := []
def f92_C (x1 : List Int) (r : Int) : Prop := CallOK cx 92 (f92_A x1) (f92_K x1) [] (f92_v r) (f92_k x1 r)

def f53_M : List Nat := []
noncomputable def f53_v : Int → G := fun y0 => (GI y0)
noncomputable def f53_k0 : Int → List (Nat × Blk) := fun y0 => []
noncomputable def f53_k (x1 : ByteArray) (x2 : Int) : Int → List (Nat × Blk) := fun y0 => []
noncomputable def f53_A (x1 : ByteArray) (x2 : Int) : List G := [(.r (.at (.str x1))), (GI x2)]
noncomputable def f53_K (x1 : ByteArray) (x2 : Int) : List (Nat × Blk) := []
def f53_C (x1 : ByteArray) (x2 : Int) (r : Int) : Prop := CallOK cx 53 (f53_A x1 x2) (f53_K x1 x2) [] (f53_v r) (f53_k x1 x2 r)

def f18_M : List Nat := []
noncomputable def f18_v : (Int × Int) → G := fun (y0, y1) => (.tup [(.at (.int .i64 y0)), (.at (.int .i64 y1))])
noncomputable def f18_k0 : (Int × Int) → List (Nat × Blk) := fun (y0, y1) => []
noncomputable def f18_k (x1 : ByteArray) (x2 : Int) : (Int × Int) → List (Nat × Blk) := fun (y0, y1) => []
noncomputable def f18_A (x1 : ByteArray) (x2 : Int) : List G := [(.r (.at (.str x1))), (GI x2)]
noncomputable def f18_K (x1 : ByteArray) (x2 : Int) : List (Nat × Blk) := []
def f18_C (x1 : ByteArray) (x2 : Int) (r : Int × Int) : Prop := CallOK cx 18 (f18_A x1 x2) (f18_K x1 x2) [] (f18_v r) (f18_k x1 x2 r)

def f17_M : List Nat := []
noncomputable def f17_p1_H (x8 x5 x6 : Int) : GS := ⟨[(5, (.r (.at (.ptr 2 0 0)))), (22, (.r (.at (.bool (x8 == 12)))))], [(1, (.var [.cell (.int .i64 x5)])), (2, (.var [.cell (.int .i64 x6)])), (3, (.var [.cell (.app2 (.app2 (.app2 (.fn 17) (.ptr 1 0 0)) (.ptr 2 0 0)) (.ptr 3 0 0))]))]⟩
noncomputable def f17_p1_x : Int → GExit := fun y0 => .normal
noncomputable def f17_p1_s (x8 x5 x6 : Int) : Int → GS := fun y0 => ⟨[], [(1, (.var [.cell (.int .i64 x5)])), (2, (.var [.cell (.int .i64 y0)])), (3, (.var [.cell (.app2 (.app2 (.app2 (.fn 17) (.ptr 1 0 0)) (.ptr 2 0 0)) (.ptr 3 0 0))]))]⟩
def f17_p1_P (x8 x5 x6 : Int) (r : Int) : Prop := Ex cx f17_M 51 (part Tryd.f17 1) (f17_p1_H x8 x5 x6) (f17_p1_x r) (f17_p1_s x8 x5 x6 r)
noncomputable def f17_p2_H (x1 : ByteArray) (x2 x3 : Int) (x4 x5 x6 : Int) : GS := ⟨[(0, (.r (.at (.str x1)))), (1, (GI x2)), (2, (GI x3)), (3, (GI x4)), (6, (.r (.at (.ptr 3 0 0)))), (26, (.r (.at (.bool (decide (x3 > 0))))))], [(1, (.var [.cell (.int .i64 x5)])), (2, (.var [.cell (.int .i64 x6)])), (3, (.var [.cell (.app2 (.app2 (.app2 (.fn 17) (.ptr 1 0 0)) (.ptr 2 0 0)) (.ptr 3 0 0))]))]⟩
noncomputable def f17_p2_x : Int → GExit := fun y0 => .normal
noncomputable def f17_p2_s (x1 : ByteArray) (x2 x3 : Int) (x4 x5 x6 : Int) : Int → GS := fun y0 => ⟨[(0, (.r (.at (.str x1)))), (1, (GI x2)), (2, (GI x3)), (3, (GI x4)), (6, (.r (.at (.ptr 3 0 0))))], [(1, (.var [.cell (.int .i64 x5)])), (2, (.var [.cell (.int .i64 y0)])), (3, (.var [.cell (.app2 (.app2 (.app2 (.fn 17) (.ptr 1 0 0)) (.ptr 2 0 0)) (.ptr 3 0 0))]))]⟩
def f17_p2_P (x1 : ByteArray) (x2 x3 : Int) (x4 x5 x6 : Int) (r : Int) : Prop := Ex cx f17_M 51 (part Tryd.f17 2) (f17_p2_H x1 x2 x3 x4 x5 x6) (f17_p2_x r) (f17_p2_s x1 x2 x3 x4 x5 x6 r)
noncomputable def f17_p3_H (x1 : ByteArray) (x2 x3 : Int) (x4 x5 x11 : Int) : GS := ⟨[(0, (.r (.at (.str x1)))), (1, (GI x2)), (2, (GI x3)), (3, (GI x4)), (6, (.r (.at (.ptr 3 0 0)))), (41, (.r (.at (.bool (decide (x2 > 1))))))], [(1, (.var [.cell (.int .i64 x5)])), (2, (.var [.cell (.int .i64 x11)])), (3, (.var [.cell (.app2 (.app2 (.app2 (.fn 17) (.ptr 1 0 0)) (.ptr 2 0 0)) (.ptr 3 0 0))]))]⟩
noncomputable def f17_p3_x : Int → GExit := fun y0 => .normal
noncomputable def f17_p3_s (x1 : ByteArray) (x2 x3 : Int) (x4 x5 x11 : Int) : Int → GS := fun y0 => ⟨[], [(1, (.var [.cell (.int .i64 x5)])), (2, (.var [.cell (.int .i64 y0)])), (3, (.var [.cell (.app2 (.app2 (.app2 (.fn 17) (.ptr 1 0 0)) (.ptr 2 0 0)) (.ptr 3 0 0))]))]⟩
def f17_p3_P (x1 : ByteArray) (x2 x3 : Int) (x4 x5 x11 : Int) (r : Int) : Prop := Ex cx f17_M 51 (part Tryd.f17 3) (f17_p3_H x1 x2 x3 x4 x5 x11) (f17_p3_x r) (f17_p3_s x1 x2 x3 x4 x5 x11 r)
noncomputable def f17_v : Int → G := fun y0 => (.r (.at .unit0))
noncomputable def f17_k0 : Int → List (Nat × Blk) := fun y0 => [(2, (.var [.cell (.int .i64 y0)]))]
noncomputable def f17_k (x1 : ByteArray) (x2 x3 : Int) (x4 x5 x6 : Int) : Int → List (Nat × Blk) := fun y0 => [(2, (.var [.cell (.int .i64 y0)])), (1, (.var [.cell (.int .i64 x5)])), (3, (.var [.cell (.app2 (.app2 (.app2 (.fn 17) (.ptr 1 0 0)) (.ptr 2 0 0)) (.ptr 3 0 0))]))]
noncomputable def f17_A (x1 : ByteArray) (x2 x3 : Int) (x4 x5 x6 : Int) : List G := [(.r (.at (.str x1))), (GI x2), (GI x3), (GI x4), (.r (.at (.ptr 1 0 0))), (.r (.at (.ptr 2 0 0))), (.r (.at (.ptr 3 0 0)))]
noncomputable def f17_K (x1 : ByteArray) (x2 x3 : Int) (x4 x5 x6 : Int) : List (Nat × Blk) := [(1, (.var [.cell (.int .i64 x5)])), (2, (.var [.cell (.int .i64 x6)])), (3, (.var [.cell (.app2 (.app2 (.app2 (.fn 17) (.ptr 1 0 0)) (.ptr 2 0 0)) (.ptr 3 0 0))]))]
def f17_C (x1 : ByteArray) (x2 x3 : Int) (x4 x5 x6 : Int) (r : Int) : Prop := CallOK cx 17 (f17_A x1 x2 x3 x4 x5 x6) (f17_K x1 x2 x3 x4 x5 x6) [] (f17_v r) (f17_k x1 x2 x3 x4 x5 x6 r)

def f57_M : List Nat := []
noncomputable def f57_v : Bool → G := fun y0 => (GB y0)
noncomputable def f57_k0 : Bool → List (Nat × Blk) := fun y0 => []
noncomputable def f57_k (x1 x2 x3 : Int) : Bool → List (Nat × Blk) := fun y0 => []
noncomputable def f57_A (x1 x2 x3 : Int) : List G := [(GI x1), (GI x2), (GI x3)]
noncomputable def f57_K (x1 x2 x3 : Int) : List (Nat × Blk) := []
def f57_C (x1 x2 x3 : Int) (r : Bool) : Prop := CallOK cx 57 (f57_A x1 x2 x3) (f57_K x1 x2 x3) [] (f57_v r) (f57_k x1 x2 x3 r)

def f124_M : List Nat := []
noncomputable def f124_p4_H (x1 : List Int) (x2 x3 : Int) : GS := ⟨[(3, (GI x2)), (14, (GL x1)), (15, (.r (.at (.int .i64 ((List.length x1 : Nat) : Int))))), (16, (GI x3))], []⟩
noncomputable def f124_p4_x : f124_p4_R → GExit := fun
  | .c0 y0 => .ret
  | .c1 => (.exit 1)
noncomputable def f124_p4_s (x1 : List Int) : f124_p4_R → GS := fun
  | .c0 y0 => ⟨[(2, (GI y0))], []⟩
  | .c1 => ⟨[], []⟩
def f124_p4_P (x1 : List Int) (x2 x3 : Int) (r : f124_p4_R) : Prop := Lp cx f124_M 30 (part Tryd.f124 4) (f124_p4_H x1 x2 x3) (f124_p4_x r) (f124_p4_s x1 r)
noncomputable def f124_v : Int → G := fun y0 => (GI y0)
noncomputable def f124_k0 : Int → List (Nat × Blk) := fun y0 => []
noncomputable def f124_k (x1 : List Int) : Int → List (Nat × Blk) := fun y0 => []
noncomputable def f124_A (x1 : List Int) : List G := [(GL x1)]
noncomputable def f124_K (x1 : List Int) : List (Nat × Blk) := []
def f124_C (x1 : List Int) (r : Int) : Prop := CallOK cx 124 (f124_A x1) (f124_K x1) [] (f124_v r) (f124_k x1 r)

def f125_M : List Nat := []
noncomputable def f125_p0_H (x1 : List Int) : GS := ⟨[(0, (GL x1)), (7, (.r (.at (.bool (decide (((List.length x1 : Nat) : Int) < 1))))))], []⟩
noncomputable def f125_p0_x : Unit → GExit := fun _ => .normal
noncomputable def f125_p0_s (x1 : List Int) : Unit → GS := fun _ => ⟨[(0, (GL x1))], []⟩
def f125_p0_P (x1 : List Int) (r : Unit) : Prop := Ex cx f125_M 25 (part Tryd.f125 0) (f125_p0_H x1) (f125_p0_x r) (f125_p0_s x1 r)
noncomputable def f125_p2_H (x1 : List Int) (x3 x4 : Int) : GS := ⟨[(0, (GL x1)), (3, (GI x3)), (4, (GI x4))], []⟩
noncomputable def f125_p2_x : Int → GExit := fun y0 => (.exit 0)
noncomputable def f125_p2_s (x1 : List Int) : Int → GS := fun y0 => ⟨[(3, (GI y0))], []⟩
def f125_p2_P (x1 : List Int) (x3 x4 : Int) (r : Int) : Prop := Lp cx f125_M 25 (part Tryd.f125 2) (f125_p2_H x1 x3 x4) (f125_p2_x r) (f125_p2_s x1 r)
noncomputable def f125_v : Int → G := fun y0 => (GI y0)
noncomputable def f125_k0 : Int → List (Nat × Blk) := fun y0 => []
noncomputable def f125_k (x1 : List Int) : Int → List (Nat × Blk) := fun y0 => []
noncomputable def f125_A (x1 : List Int) : List G := [(GL x1)]
noncomputable def f125_K (x1 : List Int) : List (Nat × Blk) := []
def f125_C (x1 : List Int) (r : Int) : Prop := CallOK cx 125 (f125_A x1) (f125_K x1) [] (f125_v r) (f125_k x1 r)

def f32_M : List Nat := []
noncomputable def f32_p0_H (x1 : List Int) : GS := ⟨[(0, (GL x1)), (7, (.r (.at (.bool (decide (((List.length x1 : Nat) : Int) < 1))))))], []⟩
noncomputable def f32_p0_x : Unit → GExit := fun _ => .normal
noncomputable def f32_p0_s (x1 : List Int) : Unit → GS := fun _ => ⟨[(0, (GL x1))], []⟩
def f32_p0_P (x1 : List Int) (r : Unit) : Prop := Ex cx f32_M 25 (part Tryd.f32 0) (f32_p0_H x1) (f32_p0_x r) (f32_p0_s x1 r)
noncomputable def f32_p2_H (x1 : List Int) (x3 x4 : Int) : GS := ⟨[(0, (GL x1)), (3, (GI x3)), (4, (GI x4))], []⟩
noncomputable def f32_p2_x : Int → GExit := fun y0 => (.exit 0)
noncomputable def f32_p2_s (x1 : List Int) : Int → GS := fun y0 => ⟨[(3, (GI y0))], []⟩
def f32_p2_P (x1 : List Int) (x3 x4 : Int) (r : Int) : Prop := Lp cx f32_M 25 (part Tryd.f32 2) (f32_p2_H x1 x3 x4) (f32_p2_x r) (f32_p2_s x1 r)
noncomputable def f32_v : Int → G := fun y0 => (GI y0)
noncomputable def f32_k0 : Int → List (Nat × Blk) := fun y0 => []
noncomputable def f32_k (x1 : List Int) : Int → List (Nat × Blk) := fun y0 => []
noncomputable def f32_A (x1 : List Int) : List G := [(GL x1)]
noncomputable def f32_K (x1 : List Int) : List (Nat × Blk) := []
def f32_C (x1 : List Int) (r : Int) : Prop := CallOK cx 32 (f32_A x1) (f32_K x1) [] (f32_v r) (f32_k x1 r)

def f95_M : List Nat := [9]
noncomputable def f95_v : ((List Int) × (List Int) × Int) → G := fun (y0, y1, y2) => (.tup [(.agg [.cell (.lst (.int .i64) y0 false), .cell (.lst (.int .i64) y1 false)]), (.at (.int .i64 y2))])
noncomputable def f95_k0 : ((List Int) × (List Int) × Int) → List (Nat × Blk) := fun (y0, y1, y2) => []
noncomputable def f95_k (x1 x2 : List Int) : ((List Int) × (List Int) × Int) → List (Nat × Blk) := fun (y0, y1, y2) => []
noncomputable def f95_A (x1 x2 : List Int) : List G := [(GL x1), (GL x2)]
noncomputable def f95_K (x1 x2 : List Int) : List (Nat × Blk) := []
def f95_C (x1 x2 : List Int) (r : (List Int) × (List Int) × Int) : Prop := CallOK cx 95 (f95_A x1 x2) (f95_K x1 x2) [] (f95_v r) (f95_k x1 x2 r)

def f55_M : List Nat := [8, 10]
noncomputable def f55_p0_H (x6 : Int) (x7 : Bool) (x4 x5 : List Int) : GS := ⟨[(6, (.r (.at (.ptr 8 0 0)))), (8, (.r (.at (.ptr 10 0 0)))), (9, (GI x6)), (22, (.r (.at (.bool (!x7)))))], [(8, (.var [.cell .nils, .cell .nils])), (10, (.var [.cell (.lst (.int .i64) x4 false), .cell (.lst (.int .i64) x5 false)]))]⟩
noncomputable def f55_p0_x : Int → GExit := fun y0 => .normal
noncomputable def f55_p0_s (x6 : Int) (x7 : Bool) (x4 x5 : List Int) : Int → GS := fun y0 => ⟨[(6, (.r (.at (.ptr 8 0 0)))), (8, (.r (.at (.ptr 10 0 0)))), (9, (GI y0))], [(8, (.var [.cell .nils, .cell .nils])), (10, (.var [.cell (.lst (.int .i64) x4 false), .cell (.lst (.int .i64) x5 false)]))]⟩
def f55_p0_P (x6 : Int) (x7 : Bool) (x4 x5 : List Int) (r : Int) : Prop := Ex cx f55_M 25 (part Tryd.f55 0) (f55_p0_H x6 x7 x4 x5) (f55_p0_x r) (f55_p0_s x6 x7 x4 x5 r)
noncomputable def f55_v : ((List Int) × (List Int) × Int) → G := fun (y0, y1, y2) => (.tup [(.agg [.cell (.lst (.int .i64) y0 false), .cell (.lst (.int .i64) y1 false)]), (.at (.int .i64 y2))])
noncomputable def f55_k0 : ((List Int) × (List Int) × Int) → List (Nat × Blk) := fun (y0, y1, y2) => []
noncomputable def f55_k (x1 x2 : List Int) (x3 : Int) : ((List Int) × (List Int) × Int) → List (Nat × Blk) := fun (y0, y1, y2) => []
noncomputable def f55_A (x1 x2 : List Int) (x3 : Int) : List G := [(GL x1), (GL x2), (GI x3)]
noncomputable def f55_K (x1 x2 : List Int) (x3 : Int) : List (Nat × Blk) := []
def f55_C (x1 x2 : List Int) (x3 : Int) (r : (List Int) × (List Int) × Int) : Prop := CallOK cx 55 (f55_A x1 x2 x3) (f55_K x1 x2 x3) [] (f55_v r) (f55_k x1 x2 x3 r)

def f59_M : List Nat := [14]
noncomputable def f59_v : (List Int) → G := fun y0 => (.r (.at (.sl 14 0 (List.length y0))))
noncomputable def f59_k0 : (List Int) → List (Nat × Blk) := fun y0 => [(14, (.gr (.int .i64) 3 y0 true))]
noncomputable def f59_k (x1 : List Int) : (List Int) → List (Nat × Blk) := fun y0 => [(14, (.gr (.int .i64) 3 y0 true))]
noncomputable def f59_A (x1 : List Int) : List G := [(GL x1)]
noncomputable def f59_K (x1 : List Int) : List (Nat × Blk) := []
def f59_C (x1 : List Int) (r : (List Int)) : Prop := CallOK cx 59 (f59_A x1) (f59_K x1) [] (f59_v r) (f59_k x1 r)

def f56_M : List Nat := [12, 13, 14]
noncomputable def f56_p8_5_H (x33 : List Int) (x34 x35 : Int) (x36 : List Int) (x53 x56 : Int) (x1 x2 x52 : List Int) (x54 x55 : Int) : GS := ⟨[(1, (.r (.at (.ptr 12 0 0)))), (3, (GL x33)), (4, (GI x34)), (5, (GI x35)), (6, (.r (.at (.sl 14 0 (List.length x36))))), (7, (GI x53)), (8, (.r (.at (.int .i64 (w64 (x53 - (w64 ((w64 (x56 + 1)) * x35)))))))), (13, (GL x1)), (14, (.r (.at (.int .i64 ((List.length x1 : Nat) : Int))))), (15, (GI x34)), (50, (.r (.at (.bool (decide ((w64 (x53 - (w64 ((w64 (x56 + 1)) * x35)))) ≥ 0))))))], [(12, (.var [.cell (.lst (.int .i64) x1 false), .cell (.lst (.int .i64) x2 false)])), (14, (.gr (.int .i64) 3 ((List.set x52 (0 + (Int.toNat x53)) (w64 (x54 + x55))) : List Int) true))]⟩
noncomputable def f56_p8_5_x : (List Int) → GExit := fun y0 => .normal
noncomputable def f56_p8_5_s (x33 : List Int) (x34 x35 : Int) (x36 : List Int) (x53 x56 : Int) (x1 x2 x52 : List Int) (x54 x55 : Int) : (List Int) → GS := fun y0 => ⟨[(1, (.r (.at (.ptr 12 0 0)))), (3, (GL x33)), (4, (GI x34)), (5, (GI x35)), (6, (.r (.at (.sl 14 0 (List.length x36))))), (7, (GI x53)), (13, (GL x1)), (14, (.r (.at (.int .i64 ((List.length x1 : Nat) : Int))))), (15, (GI x34))], [(12, (.var [.cell (.lst (.int .i64) x1 false), .cell (.lst (.int .i64) x2 false)])), (14, (.gr (.int .i64) 3 y0 true))]⟩
def f56_p8_5_P (x33 : List Int) (x34 x35 : Int) (x36 : List Int) (x53 x56 : Int) (x1 x2 x52 : List Int) (x54 x55 : Int) (r : (List Int)) : Prop := Ex cx f56_M 64 (part Tryd.f56 8) (f56_p8_5_H x33 x34 x35 x36 x53 x56 x1 x2 x52 x54 x55) (f56_p8_5_x r) (f56_p8_5_s x33 x34 x35 x36 x53 x56 x1 x2 x52 x54 x55 r)
noncomputable def f56_p5_1_H (x33 : List Int) (x34 x35 : Int) (x36 x1 x2 : List Int) (x53 : Int) (x52 : List Int) : GS := ⟨[(1, (.r (.at (.ptr 12 0 0)))), (3, (GL x33)), (4, (GI x34)), (5, (GI x35)), (6, (.r (.at (.sl 14 0 (List.length x36))))), (7, (GI x53)), (13, (GL x1)), (14, (.r (.at (.int .i64 ((List.length x1 : Nat) : Int))))), (15, (GI x34))], [(12, (.var [.cell (.lst (.int .i64) x1 false), .cell (.lst (.int .i64) x2 false)])), (14, (.gr (.int .i64) 3 x52 true))]⟩
noncomputable def f56_p5_1_x : (List Int) → GExit := fun y0 => (.exit 2)
noncomputable def f56_p5_1_s (x33 : List Int) (x34 x35 : Int) (x36 x1 x2 : List Int) : (List Int) → GS := fun y0 => ⟨[(1, (.r (.at (.ptr 12 0 0)))), (6, (.r (.at (.sl 14 0 (List.length x36))))), (13, (GL x1)), (14, (.r (.at (.int .i64 ((List.length x1 : Nat) : Int))))), (15, (GI x34))], [(12, (.var [.cell (.lst (.int .i64) x1 false), .cell (.lst (.int .i64) x2 false)])), (14, (.gr (.int .i64) 3 y0 true))]⟩
def f56_p5_1_P (x33 : List Int) (x34 x35 : Int) (x36 x1 x2 : List Int) (x53 : Int) (x52 : List Int) (r : (List Int)) : Prop := Lp cx f56_M 64 (part Tryd.f56 5) (f56_p5_1_H x33 x34 x35 x36 x1 x2 x53 x52) (f56_p5_1_x r) (f56_p5_1_s x33 x34 x35 x36 x1 x2 r)
noncomputable def f56_p1_H (x1 x2 x33 : List Int) (x34 : Int) : GS := ⟨[(1, (.r (.at (.ptr 12 0 0)))), (3, (GL x33)), (13, (GL x1)), (14, (.r (.at (.int .i64 ((List.length x1 : Nat) : Int))))), (15, (GI x34))], [(12, (.var [.cell (.lst (.int .i64) x1 false), .cell (.lst (.int .i64) x2 false)]))]⟩
noncomputable def f56_p1_x : (List Int) → GExit := fun y0 => (.exit 0)
noncomputable def f56_p1_s (x1 x2 : List Int) : (List Int) → GS := fun y0 => ⟨[(3, (GL y0))], []⟩
def f56_p1_P (x1 x2 x33 : List Int) (x34 : Int) (r : (List Int)) : Prop := Lp cx f56_M 64 (part Tryd.f56 1) (f56_p1_H x1 x2 x33 x34) (f56_p1_x r) (f56_p1_s x1 x2 r)
noncomputable def f56_v : (List Int) → G := fun y0 => (GL y0)
noncomputable def f56_k0 : (List Int) → List (Nat × Blk) := fun y0 => []
noncomputable def f56_k (x1 x2 : List Int) : (List Int) → List (Nat × Blk) := fun y0 => []
noncomputable def f56_A (x1 x2 : List Int) : List G := [(.r (.agg [.cell (.lst (.int .i64) x1 false), .cell (.lst (.int .i64) x2 false)]))]
noncomputable def f56_K (x1 x2 : List Int) : List (Nat × Blk) := []
def f56_C (x1 x2 : List Int) (r : (List Int)) : Prop := CallOK cx 56 (f56_A x1 x2) (f56_K x1 x2) [] (f56_v r) (f56_k x1 x2 r)

def f19_M : List Nat := [11]
noncomputable def f19_v : (Int × Int) → G := fun (y0, y1) => (.tup [(.at (.int .i64 y0)), (.at (.int .i64 y1))])
noncomputable def f19_k0 : (Int × Int) → List (Nat × Blk) := fun (y0, y1) => []
noncomputable def f19_k (x1 x2 : List Int) (x3 : Int) : (Int × Int) → List (Nat × Blk) := fun (y0, y1) => []
noncomputable def f19_A (x1 x2 : List Int) (x3 : Int) : List G := [(GL x1), (GL x2), (GI x3)]
noncomputable def f19_K (x1 x2 : List Int) (x3 : Int) : List (Nat × Blk) := []
def f19_C (x1 x2 : List Int) (x3 : Int) (r : Int × Int) : Prop := CallOK cx 19 (f19_A x1 x2 x3) (f19_K x1 x2 x3) [] (f19_v r) (f19_k x1 x2 x3 r)

def f20_M : List Nat := [15]
noncomputable def f20_p4_H (x4 x5 x6 : List Int) (x8 x9 : Int) : GS := ⟨[(2, (GI x8)), (9, (.r (.at (.ptr 15 0 0)))), (30, (GL x4)), (31, (.r (.at (.int .i64 ((List.length x4 : Nat) : Int))))), (32, (GI x9))], [(15, (.var [.cell (.lst (.int .i64) x5 false), .cell (.lst (.int .i64) x6 false)]))]⟩
noncomputable def f20_p4_x : f20_p4_R → GExit := fun
  | .c0 => .ret
  | .c1 y0 => (.exit 1)
noncomputable def f20_p4_s (x4 x5 x6 : List Int) : f20_p4_R → GS := fun
  | .c0 => ⟨[(8, (.r (.at (.int .i64 1))))], []⟩
  | .c1 y0 => ⟨[(2, (GI y0))], []⟩
def f20_p4_P (x4 x5 x6 : List Int) (x8 x9 : Int) (r : f20_p4_R) : Prop := Lp cx f20_M 57 (part Tryd.f20 4) (f20_p4_H x4 x5 x6 x8 x9) (f20_p4_x r) (f20_p4_s x4 x5 x6 r)
noncomputable def f20_v : Int → G := fun y0 => (GI y0)
noncomputable def f20_k0 : Int → List (Nat × Blk) := fun y0 => []
noncomputable def f20_k (x1 x2 : List Int) (x3 : Int) (x4 : List Int) : Int → List (Nat × Blk) := fun y0 => []
noncomputable def f20_A (x1 x2 : List Int) (x3 : Int) (x4 : List Int) : List G := [(GL x1), (GL x2), (GI x3), (GL x4)]
noncomputable def f20_K (x1 x2 : List Int) (x3 : Int) (x4 : List Int) : List (Nat × Blk) := []
def f20_C (x1 x2 : List Int) (x3 : Int) (x4 : List Int) (r : Int) : Prop := CallOK cx 20 (f20_A x1 x2 x3 x4) (f20_K x1 x2 x3 x4) [] (f20_v r) (f20_k x1 x2 x3 x4 r)

def f126_M : List Nat := []
noncomputable def f126_p2_H (x1 x2 : Int) (x3 x4 : Int) : GS := ⟨[(0, (GI x1)), (5, (GI x3)), (9, (GI x2)), (10, (GI x4))], []⟩
noncomputable def f126_p2_x : Int → GExit := fun y0 => (.exit 0)
noncomputable def f126_p2_s (x1 x2 : Int) : Int → GS := fun y0 => ⟨[(5, (GI y0))], []⟩
def f126_p2_P (x1 x2 : Int) (x3 x4 : Int) (r : Int) : Prop := Lp cx f126_M 23 (part Tryd.f126 2) (f126_p2_H x1 x2 x3 x4) (f126_p2_x r) (f126_p2_s x1 x2 r)
noncomputable def f126_v : Int → G := fun y0 => (GI y0)
noncomputable def f126_k0 : Int → List (Nat × Blk) := fun y0 => []
noncomputable def f126_k (x1 x2 : Int) : Int → List (Nat × Blk) := fun y0 => []
noncomputable def f126_A (x1 x2 : Int) : List G := [(GI x1), (GI x2)]
noncomputable def f126_K (x1 x2 : Int) : List (Nat × Blk) := []
def f126_C (x1 x2 : Int) (r : Int) : Prop := CallOK cx 126 (f126_A x1 x2) (f126_K x1 x2) [] (f126_v r) (f126_k x1 x2 r)

def f96_M : List Nat := []
noncomputable def f96_v : Int → G := fun y0 => (GI y0)
noncomputable def f96_k0 : Int → List (Nat × Blk) := fun y0 => []
noncomputable def f96_k (x1 x2 x3 : Int) : Int → List (Nat × Blk) := fun y0 => []
noncomputable def f96_A (x1 x2 x3 : Int) : List G := [(GI x1), (GI x2), (GI x3)]
noncomputable def f96_K (x1 x2 x3 : Int) : List (Nat × Blk) := []
def f96_C (x1 x2 x3 : Int) (r : Int) : Prop := CallOK cx 96 (f96_A x1 x2 x3) (f96_K x1 x2 x3) [] (f96_v r) (f96_k x1 x2 x3 r)

def f58_M : List Nat := []
noncomputable def f58_v : (Int × Int) → G := fun (y0, y1) => (.tup [(.at (.int .i64 y0)), (.at (.int .i64 y1))])
noncomputable def f58_k0 : (Int × Int) → List (Nat × Blk) := fun (y0, y1) => []
noncomputable def f58_k (x1 x2 x3 : Int) : (Int × Int) → List (Nat × Blk) := fun (y0, y1) => []
noncomputable def f58_A (x1 x2 x3 : Int) : List G := [(GI x1), (GI x2), (GI x3)]
noncomputable def f58_K (x1 x2 x3 : Int) : List (Nat × Blk) := []
def f58_C (x1 x2 x3 : Int) (r : Int × Int) : Prop := CallOK cx 58 (f58_A x1 x2 x3) (f58_K x1 x2 x3) [] (f58_v r) (f58_k x1 x2 x3 r)

def f21_M : List Nat := []
noncomputable def f21_v : (Int × Int) → G := fun (y0, y1) => (.tup [(.at (.int .i64 y0)), (.at (.int .i64 y1))])
noncomputable def f21_k0 : (Int × Int) → List (Nat × Blk) := fun (y0, y1) => []
noncomputable def f21_k (x1 x2 x3 : Int) : (Int × Int) → List (Nat × Blk) := fun (y0, y1) => []
noncomputable def f21_A (x1 x2 x3 : Int) : List G := [(GI x1), (GI x2), (GI x3)]
noncomputable def f21_K (x1 x2 x3 : Int) : List (Nat × Blk) := []
def f21_C (x1 x2 x3 : Int) (r : Int × Int) : Prop := CallOK cx 21 (f21_A x1 x2 x3) (f21_K x1 x2 x3) [] (f21_v r) (f21_k x1 x2 x3 r)

def f59_1_M : List Nat := [17]
noncomputable def f59_1_v : (List Int) → G := fun y0 => (.r (.at (.sl 17 0 (List.length y0))))
noncomputable def f59_1_k0 : (List Int) → List (Nat × Blk) := fun y0 => [(17, (.gr (.int .i64) 3 y0 true))]
noncomputable def f59_1_k (x1 : List Int) : (List Int) → List (Nat × Blk) := fun y0 => [(17, (.gr (.int .i64) 3 y0 true))]
noncomputable def f59_1_A (x1 : List Int) : List G := [(GL x1)]
noncomputable def f59_1_K (x1 : List Int) : List (Nat × Blk) := []
def f59_1_C (x1 : List Int) (r : (List Int)) : Prop := CallOK cx 59 (f59_1_A x1) (f59_1_K x1) [] (f59_1_v r) (f59_1_k x1 r)

def f22_M : List Nat := [16, 17]
noncomputable def f22_p10_H (x3 x4 : Int) (x12 x14 : Int) (x10 : List Int) (x15 x11 : Int) (x5 x6 : List Int) : GS := ⟨[(2, (GI x3)), (3, (GI x4)), (8, (GI x12)), (10, (GI x14)), (11, (.r (.at (.ptr 16 0 0)))), (13, (GL x10)), (14, (GI x15)), (50, (.r (.at (.int .i64 (w64 (x11 + 1)))))), (51, (GI x15)), (72, (.r (.at (.bool (x14 != 0)))))], [(16, (.var [.cell (.lst (.int .i64) x5 false), .cell (.lst (.int .i64) x6 false)]))]⟩
noncomputable def f22_p10_x : (Int × Int) → GExit := fun (y0, y1) => .normal
noncomputable def f22_p10_s (x3 x4 : Int) (x12 x14 : Int) (x10 : List Int) (x15 x11 : Int) (x5 x6 : List Int) : (Int × Int) → GS := fun (y0, y1) => ⟨[(2, (GI x3)), (3, (GI x4)), (8, (GI y0)), (10, (GI y1)), (11, (.r (.at (.ptr 16 0 0)))), (13, (GL x10)), (14, (GI x15)), (50, (.r (.at (.int .i64 (w64 (x11 + 1)))))), (51, (GI x15))], [(16, (.var [.cell (.lst (.int .i64) x5 false), .cell (.lst (.int .i64) x6 false)]))]⟩
def f22_p10_P (x3 x4 : Int) (x12 x14 : Int) (x10 : List Int) (x15 x11 : Int) (x5 x6 : List Int) (r : Int × Int) : Prop := Ex cx f22_M 81 (part Tryd.f22 10) (f22_p10_H x3 x4 x12 x14 x10 x15 x11 x5 x6) (f22_p10_x r) (f22_p10_s x3 x4 x12 x14 x10 x15 x11 x5 x6 r)
noncomputable def f22_p4_H (x3 x4 : Int) (x10 : List Int) (x11 : Int) (x5 x6 : List Int) (x12 x13 : Int) (x14 x15 : Int) : GS := ⟨[(2, (GI x3)), (3, (GI x4)), (8, (GI x12)), (9, (GI x13)), (10, (GI x14)), (11, (.r (.at (.ptr 16 0 0)))), (13, (GL x10)), (50, (.r (.at (.int .i64 (w64 (x11 + 1)))))), (51, (GI x15))], [(16, (.var [.cell (.lst (.int .i64) x5 false), .cell (.lst (.int .i64) x6 false)]))]⟩
noncomputable def f22_p4_x : (Int × Int × Int) → GExit := fun (y0, y1, y2) => (.exit 1)
noncomputable def f22_p4_s (x3 x4 : Int) (x10 : List Int) (x11 : Int) (x5 x6 : List Int) : (Int × Int × Int) → GS := fun (y0, y1, y2) => ⟨[(8, (GI y0)), (9, (GI y1)), (10, (GI y2))], []⟩
def f22_p4_P (x3 x4 : Int) (x10 : List Int) (x11 : Int) (x5 x6 : List Int) (x12 x13 : Int) (x14 x15 : Int) (r : Int × Int × Int) : Prop := Lp cx f22_M 81 (part Tryd.f22 4) (f22_p4_H x3 x4 x10 x11 x5 x6 x12 x13 x14 x15) (f22_p4_x r) (f22_p4_s x3 x4 x10 x11 x5 x6 r)
noncomputable def f22_v : (Int × Int × Int) → G := fun (y0, y1, y2) => (.tup [(.at (.int .i64 y0)), (.at (.int .i64 y1)), (.at (.int .i64 y2))])
noncomputable def f22_k0 : (Int × Int × Int) → List (Nat × Blk) := fun (y0, y1, y2) => []
noncomputable def f22_k (x1 x2 : List Int) (x3 x4 : Int) : (Int × Int × Int) → List (Nat × Blk) := fun (y0, y1, y2) => []
noncomputable def f22_A (x1 x2 : List Int) (x3 x4 : Int) : List G := [(GL x1), (GL x2), (GI x3), (GI x4)]
noncomputable def f22_K (x1 x2 : List Int) (x3 x4 : Int) : List (Nat × Blk) := []
def f22_C (x1 x2 : List Int) (x3 x4 : Int) (r : Int × Int × Int) : Prop := CallOK cx 22 (f22_A x1 x2 x3 x4) (f22_K x1 x2 x3 x4) [] (f22_v r) (f22_k x1 x2 x3 x4 r)

def f141_1_M : List Nat := []
noncomputable def f141_1_v : Int → G := fun y0 => (GI y0)
noncomputable def f141_1_k0 : Int → List (Nat × Blk) := fun y0 => []
noncomputable def f141_1_k (x1 : Int) (x2 : List Int) (x3 x4 x5 : Int) : Int → List (Nat × Blk) := fun y0 => [(21, (.var [.cell (.lst (.int .i64) x2 false)])), (23, (.var [.cell (.int .i64 x3)])), (26, (.var [.cell (.int .i64 x4)])), (27, (.var [.cell (.int .i64 x5)]))]
noncomputable def f141_1_A (x1 : Int) (x2 : List Int) (x3 x4 x5 : Int) : List G := [(GI x1), (.r (.at (.ptr 21 0 0))), (.r (.at (.ptr 26 0 0))), (.r (.at (.ptr 23 0 0))), (.r (.at (.ptr 27 0 0)))]
noncomputable def f141_1_K (x1 : Int) (x2 : List Int) (x3 x4 x5 : Int) : List (Nat × Blk) := [(21, (.var [.cell (.lst (.int .i64) x2 false)])), (23, (.var [.cell (.int .i64 x3)])), (26, (.var [.cell (.int .i64 x4)])), (27, (.var [.cell (.int .i64 x5)]))]
def f141_1_C (x1 : Int) (x2 : List Int) (x3 x4 x5 : Int) (r : Int) : Prop := CallOK cx 141 (f141_1_A x1 x2 x3 x4 x5) (f141_1_K x1 x2 x3 x4 x5) [] (f141_1_v r) (f141_1_k x1 x2 x3 x4 x5 r)

def f123_M : List Nat := [19, 20, 21, 22, 23, 24, 25, 26, 27, 28, 29]
noncomputable def f123_p1_H (x3 : Int) (x1 x2 : List Int) (x6 : Int) (x5 : List Int) : GS := ⟨[(1, (GI x3)), (2, (.r (.at (.ptr 19 0 0)))), (6, (.r (.at (.ptr 21 0 0)))), (26, (.r (.at (.int .i64 (((Int.toNat (w64 (x3 + 1))) : Nat) : Int))))), (27, (GI x6))], [(19, (.var [.cell (.lst (.int .i64) x1 false), .cell (.lst (.int .i64) x2 false)])), (20, (.gr (.int .i64) 3 x5 true)), (21, (.var [.cell (.sl 20 0 (Int.toNat (w64 (x3 + 1))))]))]⟩
noncomputable def f123_p1_x : (List Int) → GExit := fun y0 => (.exit 0)
noncomputable def f123_p1_s (x3 : Int) (x1 x2 : List Int) : (List Int) → GS := fun y0 => ⟨[(1, (GI x3)), (2, (.r (.at (.ptr 19 0 0)))), (6, (.r (.at (.ptr 21 0 0))))], [(19, (.var [.cell (.lst (.int .i64) x1 false), .cell (.lst (.int .i64) x2 false)])), (20, (.gr (.int .i64) 3 y0 true)), (21, (.var [.cell (.sl 20 0 (Int.toNat (w64 (x3 + 1))))]))]⟩
def f123_p1_P (x3 : Int) (x1 x2 : List Int) (x6 : Int) (x5 : List Int) (r : (List Int)) : Prop := Lp cx f123_M 178 (part Tryd.f123 1) (f123_p1_H x3 x1 x2 x6 x5) (f123_p1_x r) (f123_p1_s x3 x1 x2 r)
noncomputable def f123_p17_17_H (x3 : Int) (x1 : List Int) (x134 x137 : Int) (x136 x167 : Int) (x2 x135 : List Int) (x133 : List (List Int)) (x179 x180 : List Int) (x182 : Int) (x183 : List Int) : GS := ⟨[(1, (GI x3)), (2, (.r (.at (.ptr 19 0 0)))), (6, (.r (.at (.ptr 21 0 0)))), (8, (.r (.at (.sl 22 0 (Int.toNat ((List.length x1 : Nat) : Int)))))), (9, (GI x134)), (10, (.r (.at (.ptr 23 0 0)))), (11, (GI x137)), (12, (.r (.at (.sl 24 0 (Int.toNat (w64 (x3 + 1))))))), (13, (.r (.at (.sl 25 0 (Int.toNat (w64 (x3 + 1))))))), (14, (.r (.at (.ptr 26 0 0)))), (15, (.r (.at (.sl 28 0 (List.length x183))))), (16, (.r (.at (.ptr 27 0 0)))), (17, (.r (.at (.app2 (.app2 (.app2 (.app2 (.fn 141) (.ptr 21 0 0)) (.ptr 26 0 0)) (.ptr 23 0 0)) (.ptr 27 0 0))))), (67, (.r (.at (.int .i64 (if (w64 (x3 + 1)) < x136 then (w64 (x3 + 1)) else x136))))), (68, (GI x167))], [(19, (.var [.cell (.lst (.int .i64) x1 false), .cell (.lst (.int .i64) x2 false)])), (21, (.var [.cell (.lst (.int .i64) x135 false)])), (22, (.gr (.list (.int .i64)) 22 x133 true)), (23, (.var [.cell (.int .i64 x136)])), (24, (.gr (.int .i64) 3 x179 true)), (25, (.gr (.int .i64) 3 x180 true)), (26, (.var [.cell (.int .i64 x167)])), (27, (.var [.cell (.int .i64 x182)])), (28, (.gr (.int .i64) 3 x183 true))]⟩
noncomputable def f123_p17_17_x : (List Int) → GExit := fun y0 => (.exit 8)
noncomputable def f123_p17_17_s (x3 : Int) (x1 : List Int) (x134 x137 : Int) (x136 x167 : Int) (x2 x135 : List Int) (x133 : List (List Int)) (x179 x180 : List Int) (x182 : Int) : (List Int) → GS := fun y0 => ⟨[(1, (GI x3)), (2, (.r (.at (.ptr 19 0 0)))), (6, (.r (.at (.ptr 21 0 0)))), (8, (.r (.at (.sl 22 0 (Int.toNat ((List.length x1 : Nat) : Int)))))), (9, (GI x134)), (10, (.r (.at (.ptr 23 0 0)))), (11, (GI x137)), (12, (.r (.at (.sl 24 0 (Int.toNat (w64 (x3 + 1))))))), (13, (.r (.at (.sl 25 0 (Int.toNat (w64 (x3 + 1))))))), (14, (.r (.at (.ptr 26 0 0)))), (15, (.r (.at (.sl 28 0 (List.length y0))))), (16, (.r (.at (.ptr 27 0 0)))), (17, (.r (.at (.app2 (.app2 (.app2 (.app2 (.fn 141) (.ptr 21 0 0)) (.ptr 26 0 0)) (.ptr 23 0 0)) (.ptr 27 0 0))))), (67, (.r (.at (.int .i64 (if (w64 (x3 + 1)) < x136 then (w64 (x3 + 1)) else x136))))), (68, (GI x167))], [(19, (.var [.cell (.lst (.int .i64) x1 false), .cell (.lst (.int .i64) x2 false)])), (21, (.var [.cell (.lst (.int .i64) x135 false)])), (22, (.gr (.list (.int .i64)) 22 x133 true)), (23, (.var [.cell (.int .i64 x136)])), (24, (.gr (.int .i64) 3 x179 true)), (25, (.gr (.int .i64) 3 x180 true)), (26, (.var [.cell (.int .i64 x167)])), (27, (.var [.cell (.int .i64 x182)])), (28, (.gr (.int .i64) 3 y0 true))]⟩
def f123_p17_17_P (x3 : Int) (x1 : List Int) (x134 x137 : Int) (x136 x167 : Int) (x2 x135 : List Int) (x133 : List (List Int)) (x179 x180 : List Int) (x182 : Int) (x183 : List Int) (r : (List Int)) : Prop := Lp cx f123_M 178 (part Tryd.f123 17) (f123_p17_17_H x3 x1 x134 x137 x136 x167 x2 x135 x133 x179 x180 x182 x183) (f123_p17_17_x r) (f123_p17_17_s x3 x1 x134 x137 x136 x167 x2 x135 x133 x179 x180 x182 r)
noncomputable def f123_p20_17_H (x3 : Int) (x1 : List Int) (x134 x137 : Int) (x187 : List Int) (x182 x136 : Int) (x167 x188 : Int) (x2 x135 : List Int) (x133 : List (List Int)) (x179 x180 : List Int) : GS := ⟨[(1, (GI x3)), (2, (.r (.at (.ptr 19 0 0)))), (6, (.r (.at (.ptr 21 0 0)))), (8, (.r (.at (.sl 22 0 (Int.toNat ((List.length x1 : Nat) : Int)))))), (9, (GI x134)), (10, (.r (.at (.ptr 23 0 0)))), (11, (GI x137)), (12, (.r (.at (.sl 24 0 (Int.toNat (w64 (x3 + 1))))))), (13, (.r (.at (.sl 25 0 (Int.toNat (w64 (x3 + 1))))))), (14, (.r (.at (.ptr 26 0 0)))), (15, (.r (.at (.sl 28 0 (List.length (x187 ++ ([x182] : List Int))))))), (16, (.r (.at (.ptr 27 0 0)))), (17, (.r (.at (.app2 (.app2 (.app2 (.app2 (.fn 141) (.ptr 21 0 0)) (.ptr 26 0 0)) (.ptr 23 0 0)) (.ptr 27 0 0))))), (67, (.r (.at (.int .i64 (if (w64 (x3 + 1)) < x136 then (w64 (x3 + 1)) else x136))))), (68, (GI x167)), (113, (.r (.at (.bool (decide (x188 < (w64 (x182 - x137))))))))], [(19, (.var [.cell (.lst (.int .i64) x1 false), .cell (.lst (.int .i64) x2 false)])), (21, (.var [.cell (.lst (.int .i64) x135 false)])), (22, (.gr (.list (.int .i64)) 22 x133 true)), (23, (.var [.cell (.int .i64 x136)])), (24, (.gr (.int .i64) 3 x179 true)), (25, (.gr (.int .i64) 3 x180 true)), (26, (.var [.cell (.int .i64 x167)])), (27, (.var [.cell (.int .i64 x182)])), (28, (.gr (.int .i64) 3 ((x187 ++ ([x182] : List Int)) : List Int) true))]⟩
noncomputable def f123_p20_17_x : (List Int) → GExit := fun y0 => .normal
noncomputable def f123_p20_17_s (x3 : Int) (x1 : List Int) (x134 x137 : Int) (x187 : List Int) (x182 x136 : Int) (x167 x188 : Int) (x2 x135 : List Int) (x133 : List (List Int)) (x179 x180 : List Int) : (List Int) → GS := fun y0 => ⟨[(1, (GI x3)), (2, (.r (.at (.ptr 19 0 0)))), (6, (.r (.at (.ptr 21 0 0)))), (8, (.r (.at (.sl 22 0 (Int.toNat ((List.length x1 : Nat) : Int)))))), (9, (GI x134)), (10, (.r (.at (.ptr 23 0 0)))), (11, (GI x137)), (12, (.r (.at (.sl 24 0 (Int.toNat (w64 (x3 + 1))))))), (13, (.r (.at (.sl 25 0 (Int.toNat (w64 (x3 + 1))))))), (14, (.r (.at (.ptr 26 0 0)))), (15, (.r (.at (.sl 28 0 (List.length y0))))), (16, (.r (.at (.ptr 27 0 0)))), (17, (.r (.at (.app2 (.app2 (.app2 (.app2 (.fn 141) (.ptr 21 0 0)) (.ptr 26 0 0)) (.ptr 23 0 0)) (.ptr 27 0 0))))), (67, (.r (.at (.int .i64 (if (w64 (x3 + 1)) < x136 then (w64 (x3 + 1)) else x136))))), (68, (GI x167))], [(19, (.var [.cell (.lst (.int .i64) x1 false), .cell (.lst (.int .i64) x2 false)])), (21, (.var [.cell (.lst (.int .i64) x135 false)])), (22, (.gr (.list (.int .i64)) 22 x133 true)), (23, (.var [.cell (.int .i64 x136)])), (24, (.gr (.int .i64) 3 x179 true)), (25, (.gr (.int .i64) 3 x180 true)), (26, (.var [.cell (.int .i64 x167)])), (27, (.var [.cell (.int .i64 x182)])), (28, (.gr (.int .i64) 3 y0 true))]⟩
def f123_p20_17_P (x3 : Int) (x1 : List Int) (x134 x137 : Int) (x187 : List Int) (x182 x136 : Int) (x167 x188 : Int) (x2 x135 : List Int) (x133 : List (List Int)) (x179 x180 : List Int) (r : (List Int)) : Prop := Ex cx f123_M 178 (part Tryd.f123 20) (f123_p20_17_H x3 x1 x134 x137 x187 x182 x136 x167 x188 x2 x135 x133 x179 x180) (f123_p20_17_x r) (f123_p20_17_s x3 x1 x134 x137 x187 x182 x136 x167 x188 x2 x135 x133 x179 x180 r)
noncomputable def f123_p13_5_H (x3 : Int) (x1 : List Int) (x134 x137 : Int) (x136 x167 : Int) (x2 x135 : List Int) (x133 : List (List Int)) (x179 x180 : List Int) (x182 : Int) (x181 : List Int) : GS := ⟨[(1, (GI x3)), (2, (.r (.at (.ptr 19 0 0)))), (6, (.r (.at (.ptr 21 0 0)))), (8, (.r (.at (.sl 22 0 (Int.toNat ((List.length x1 : Nat) : Int)))))), (9, (GI x134)), (10, (.r (.at (.ptr 23 0 0)))), (11, (GI x137)), (12, (.r (.at (.sl 24 0 (Int.toNat (w64 (x3 + 1))))))), (13, (.r (.at (.sl 25 0 (Int.toNat (w64 (x3 + 1))))))), (14, (.r (.at (.ptr 26 0 0)))), (15, (.r (.at (.sl 28 0 (List.length x181))))), (16, (.r (.at (.ptr 27 0 0)))), (67, (.r (.at (.int .i64 (if (w64 (x3 + 1)) < x136 then (w64 (x3 + 1)) else x136))))), (68, (GI x167))], [(19, (.var [.cell (.lst (.int .i64) x1 false), .cell (.lst (.int .i64) x2 false)])), (21, (.var [.cell (.lst (.int .i64) x135 false)])), (22, (.gr (.list (.int .i64)) 22 x133 true)), (23, (.var [.cell (.int .i64 x136)])), (24, (.gr (.int .i64) 3 x179 true)), (25, (.gr (.int .i64) 3 x180 true)), (26, (.var [.cell (.int .i64 x167)])), (27, (.var [.cell (.int .i64 x182)])), (28, (.gr (.int .i64) 3 x181 true))]⟩
noncomputable def f123_p13_5_x : ((List Int) × (List Int)) → GExit := fun (y0, y1) => (.exit 6)
noncomputable def f123_p13_5_s (x3 : Int) (x1 : List Int) (x134 x137 : Int) (x136 x167 : Int) (x2 x135 : List Int) (x133 : List (List Int)) : ((List Int) × (List Int)) → GS := fun (y0, y1) => ⟨[(1, (GI x3)), (2, (.r (.at (.ptr 19 0 0)))), (6, (.r (.at (.ptr 21 0 0)))), (8, (.r (.at (.sl 22 0 (Int.toNat ((List.length x1 : Nat) : Int)))))), (9, (GI x134)), (10, (.r (.at (.ptr 23 0 0)))), (11, (GI x137)), (12, (.r (.at (.sl 24 0 (Int.toNat (w64 (x3 + 1))))))), (13, (.r (.at (.sl 25 0 (Int.toNat (w64 (x3 + 1))))))), (67, (.r (.at (.int .i64 (if (w64 (x3 + 1)) < x136 then (w64 (x3 + 1)) else x136))))), (68, (GI x167))], [(19, (.var [.cell (.lst (.int .i64) x1 false), .cell (.lst (.int .i64) x2 false)])), (21, (.var [.cell (.lst (.int .i64) x135 false)])), (22, (.gr (.list (.int .i64)) 22 x133 true)), (23, (.var [.cell (.int .i64 x136)])), (24, (.gr (.int .i64) 3 y0 true)), (25, (.gr (.int .i64) 3 y1 true))]⟩
def f123_p13_5_P (x3 : Int) (x1 : List Int) (x134 x137 : Int) (x136 x167 : Int) (x2 x135 : List Int) (x133 : List (List Int)) (x179 x180 : List Int) (x182 : Int) (x181 : List Int) (r : (List Int) × (List Int)) : Prop := Lp cx f123_M 178 (part Tryd.f123 13) (f123_p13_5_H x3 x1 x134 x137 x136 x167 x2 x135 x133 x179 x180 x182 x181) (f123_p13_5_x r) (f123_p13_5_s x3 x1 x134 x137 x136 x167 x2 x135 x133 r)
noncomputable def f123_p9_2_H (x3 : Int) (x1 : List Int) (x134 x137 x136 : Int) (x2 x135 : List Int) (x133 : List (List Int)) (x167 : Int) (x165 x166 : List Int) : GS := ⟨[(1, (GI x3)), (2, (.r (.at (.ptr 19 0 0)))), (6, (.r (.at (.ptr 21 0 0)))), (8, (.r (.at (.sl 22 0 (Int.toNat ((List.length x1 : Nat) : Int)))))), (9, (GI x134)), (10, (.r (.at (.ptr 23 0 0)))), (11, (GI x137)), (12, (.r (.at (.sl 24 0 (Int.toNat (w64 (x3 + 1))))))), (13, (.r (.at (.sl 25 0 (Int.toNat (w64 (x3 + 1))))))), (67, (.r (.at (.int .i64 (if (w64 (x3 + 1)) < x136 then (w64 (x3 + 1)) else x136))))), (68, (GI x167))], [(19, (.var [.cell (.lst (.int .i64) x1 false), .cell (.lst (.int .i64) x2 false)])), (21, (.var [.cell (.lst (.int .i64) x135 false)])), (22, (.gr (.list (.int .i64)) 22 x133 true)), (23, (.var [.cell (.int .i64 x136)])), (24, (.gr (.int .i64) 3 x165 true)), (25, (.gr (.int .i64) 3 x166 true))]⟩
noncomputable def f123_p9_2_x : ((List Int) × (List Int)) → GExit := fun (y0, y1) => (.exit 4)
noncomputable def f123_p9_2_s (x3 : Int) (x1 : List Int) (x134 x137 x136 : Int) (x2 x135 : List Int) (x133 : List (List Int)) : ((List Int) × (List Int)) → GS := fun (y0, y1) => ⟨[(1, (GI x3)), (2, (.r (.at (.ptr 19 0 0)))), (6, (.r (.at (.ptr 21 0 0)))), (8, (.r (.at (.sl 22 0 (Int.toNat ((List.length x1 : Nat) : Int)))))), (9, (GI x134)), (12, (.r (.at (.sl 24 0 (Int.toNat (w64 (x3 + 1))))))), (13, (.r (.at (.sl 25 0 (Int.toNat (w64 (x3 + 1)))))))], [(19, (.var [.cell (.lst (.int .i64) x1 false), .cell (.lst (.int .i64) x2 false)])), (21, (.var [.cell (.lst (.int .i64) x135 false)])), (22, (.gr (.list (.int .i64)) 22 x133 true)), (24, (.gr (.int .i64) 3 y0 true)), (25, (.gr (.int .i64) 3 y1 true))]⟩
def f123_p9_2_P (x3 : Int) (x1 : List Int) (x134 x137 x136 : Int) (x2 x135 : List Int) (x133 : List (List Int)) (x167 : Int) (x165 x166 : List Int) (r : (List Int) × (List Int)) : Prop := Lp cx f123_M 178 (part Tryd.f123 9) (f123_p9_2_H x3 x1 x134 x137 x136 x2 x135 x133 x167 x165 x166) (f123_p9_2_x r) (f123_p9_2_s x3 x1 x134 x137 x136 x2 x135 x133 r)
noncomputable def f123_p5_H (x3 : Int) (x1 x2 : List Int) (x134 : Int) (x135 : List Int) (x133 : List (List Int)) : GS := ⟨[(1, (GI x3)), (2, (.r (.at (.ptr 19 0 0)))), (6, (.r (.at (.ptr 21 0 0)))), (8, (.r (.at (.sl 22 0 (Int.toNat ((List.length x1 : Nat) : Int)))))), (9, (GI x134))], [(19, (.var [.cell (.lst (.int .i64) x1 false), .cell (.lst (.int .i64) x2 false)])), (21, (.var [.cell (.lst (.int .i64) x135 false)])), (22, (.gr (.list (.int .i64)) 22 x133 true))]⟩
noncomputable def f123_p5_x : ((List Int) × (List (List Int))) → GExit := fun (y0, y1) => (.exit 2)
noncomputable def f123_p5_s (x3 : Int) (x1 x2 : List Int) : ((List Int) × (List (List Int))) → GS := fun (y0, y1) => ⟨[(1, (GI x3)), (2, (.r (.at (.ptr 19 0 0)))), (6, (.r (.at (.ptr 21 0 0)))), (8, (.r (.at (.sl 22 0 (Int.toNat ((List.length x1 : Nat) : Int))))))], [(19, (.var [.cell (.lst (.int .i64) x1 false), .cell (.lst (.int .i64) x2 false)])), (21, (.var [.cell (.lst (.int .i64) y0 false)])), (22, (.gr (.list (.int .i64)) 22 y1 true))]⟩
def f123_p5_P (x3 : Int) (x1 x2 : List Int) (x134 : Int) (x135 : List Int) (x133 : List (List Int)) (r : (List Int) × (List (List Int))) : Prop := Lp cx f123_M 178 (part Tryd.f123 5) (f123_p5_H x3 x1 x2 x134 x135 x133) (f123_p5_x r) (f123_p5_s x3 x1 x2 r)
noncomputable def f123_p23_H (x1 x2 : List Int) (x197 : List (List Int)) (x205 x206 : Int) (x204 : List Int) : GS := ⟨[(1, (GI x205)), (2, (.r (.at (.ptr 19 0 0)))), (19, (.r (.at (.sl 29 0 (List.length x204))))), (150, (.r (.at (.sl 22 0 (Int.toNat ((List.length x1 : Nat) : Int)))))), (151, (.r (.at (.int .i64 (((Int.toNat ((List.length x1 : Nat) : Int)) : Nat) : Int))))), (152, (GI x206))], [(19, (.var [.cell (.lst (.int .i64) x1 false), .cell (.lst (.int .i64) x2 false)])), (22, (.gr (.list (.int .i64)) 22 x197 true)), (29, (.gr (.int .i64) 3 x204 true))]⟩
noncomputable def f123_p23_x : (List Int) → GExit := fun y0 => (.exit 10)
noncomputable def f123_p23_s (x1 x2 : List Int) (x197 : List (List Int)) : (List Int) → GS := fun y0 => ⟨[(19, (.r (.at (.sl 29 0 (List.length y0)))))], [(29, (.gr (.int .i64) 3 y0 true))]⟩
def f123_p23_P (x1 x2 : List Int) (x197 : List (List Int)) (x205 x206 : Int) (x204 : List Int) (r : (List Int)) : Prop := Lp cx f123_M 178 (part Tryd.f123 23) (f123_p23_H x1 x2 x197 x205 x206 x204) (f123_p23_x r) (f123_p23_s x1 x2 x197 r)
noncomputable def f123_v : ((List Int) × Int) → G := fun (y0, y1) => (.tup [(.at (.lst (.int .i64) y0 false)), (.at (.int .i64 y1))])
noncomputable def f123_k0 : ((List Int) × Int) → List (Nat × Blk) := fun (y0, y1) => []
noncomputable def f123_k (x1 x2 : List Int) (x3 : Int) : ((List Int) × Int) → List (Nat × Blk) := fun (y0, y1) => []
noncomputable def f123_A (x1 x2 : List Int) (x3 : Int) : List G := [(.r (.agg [.cell (.lst (.int .i64) x1 false), .cell (.lst (.int .i64) x2 false)])), (GI x3)]
noncomputable def f123_K (x1 x2 : List Int) (x3 : Int) : List (Nat × Blk) := []
def f123_C (x1 x2 : List Int) (x3 : Int) (r : (List Int) × Int) : Prop := CallOK cx 123 (f123_A x1 x2 x3) (f123_K x1 x2 x3) [] (f123_v r) (f123_k x1 x2 x3 r)

def f94_M : List Nat := [18]
noncomputable def f94_v : ((List Int) × Int) → G := fun (y0, y1) => (.tup [(.at (.lst (.int .i64) y0 false)), (.at (.int .i64 y1))])
noncomputable def f94_k0 : ((List Int) × Int) → List (Nat × Blk) := fun (y0, y1) => []
noncomputable def f94_k (x1 x2 : List Int) (x3 : Int) : ((List Int) × Int) → List (Nat × Blk) := fun (y0, y1) => []
noncomputable def f94_A (x1 x2 : List Int) (x3 : Int) : List G := [(GL x1), (GL x2), (GI x3)]
noncomputable def f94_K (x1 x2 : List Int) (x3 : Int) : List (Nat × Blk) := []
def f94_C (x1 x2 : List Int) (x3 : Int) (r : (List Int) × Int) : Prop := CallOK cx 94 (f94_A x1 x2 x3) (f94_K x1 x2 x3) [] (f94_v r) (f94_k x1 x2 x3 r)

def f87_M : List Nat := [31, 32]
noncomputable def f87_p8_2_H (x10 x15 : Int) (x1 : List Int) (x11 : Int) (x12 : List Bool) (x13 : Int) (x14 : List Bool) : GS := ⟨[(2, (.r (.at (.ptr 31 0 0)))), (4, (.r (.at (.ptr 32 0 0)))), (5, (GI x10)), (6, (GI x15)), (20, (GL x1)), (21, (.r (.at (.int .i64 ((List.length x1 : Nat) : Int))))), (22, (GI x10)), (27, (GI x15)), (29, (.r (.at (.bool (x15 == 0)))))], [(31, (.var [.cell (.int .i64 x11), .arr .bool 16 x12])), (32, (.var [.cell (.int .i64 x13), .arr .bool 16 x14]))]⟩
noncomputable def f87_p8_2_x : Bool → GExit := fun y0 => .normal
noncomputable def f87_p8_2_s (x10 x15 : Int) (x1 : List Int) (x11 : Int) (x12 : List Bool) (x13 : Int) (x14 : List Bool) : Bool → GS := fun y0 => ⟨[(2, (.r (.at (.ptr 31 0 0)))), (4, (.r (.at (.ptr 32 0 0)))), (5, (GI x10)), (6, (GI x15)), (20, (GL x1)), (21, (.r (.at (.int .i64 ((List.length x1 : Nat) : Int))))), (22, (GI x10)), (29, (GB y0))], [(31, (.var [.cell (.int .i64 x11), .arr .bool 16 x12])), (32, (.var [.cell (.int .i64 x13), .arr .bool 16 x14]))]⟩
def f87_p8_2_P (x10 x15 : Int) (x1 : List Int) (x11 : Int) (x12 : List Bool) (x13 : Int) (x14 : List Bool) (r : Bool) : Prop := Ex cx f87_M 39 (part Tryd.f87 8) (f87_p8_2_H x10 x15 x1 x11 x12 x13 x14) (f87_p8_2_x r) (f87_p8_2_s x10 x15 x1 x11 x12 x13 x14 r)
noncomputable def f87_p4_H (x1 : List Int) (x10 x11 : Int) (x12 : List Bool) (x13 : Int) (x14 : List Bool) : GS := ⟨[(2, (.r (.at (.ptr 31 0 0)))), (4, (.r (.at (.ptr 32 0 0)))), (20, (GL x1)), (21, (.r (.at (.int .i64 ((List.length x1 : Nat) : Int))))), (22, (GI x10))], [(31, (.var [.cell (.int .i64 x11), .arr .bool 16 x12])), (32, (.var [.cell (.int .i64 x13), .arr .bool 16 x14]))]⟩
noncomputable def f87_p4_x : f87_p4_R → GExit := fun
  | .c0 => .ret
  | .c1 y0 y1 y2 y3 => (.exit 1)
noncomputable def f87_p4_s (x1 : List Int) : f87_p4_R → GS := fun
  | .c0 => ⟨[(2, (.r (.at (.ptr 31 0 0)))), (3, (.r (.at (.int .i64 1))))], [(31, (.var [.cell (.int .i64 0), .arr .bool 16 ((List.replicate 16 false) : List Bool)]))]⟩
  | .c1 y0 y1 y2 y3 => ⟨[(2, (.r (.at (.ptr 31 0 0)))), (4, (.r (.at (.ptr 32 0 0))))], [(31, (.var [.cell (.int .i64 y0), .arr .bool 16 y1])), (32, (.var [.cell (.int .i64 y2), .arr .bool 16 y3]))]⟩
def f87_p4_P (x1 : List Int) (x10 x11 : Int) (x12 : List Bool) (x13 : Int) (x14 : List Bool) (r : f87_p4_R) : Prop := Lp cx f87_M 39 (part Tryd.f87 4) (f87_p4_H x1 x10 x11 x12 x13 x14) (f87_p4_x r) (f87_p4_s x1 r)
noncomputable def f87_v : (Int × (List Bool) × Int) → G := fun (y0, y1, y2) => (.tup [(.agg [.cell (.int .i64 y0), .arr .bool 16 y1]), (.at (.int .i64 y2))])
noncomputable def f87_k0 : (Int × (List Bool) × Int) → List (Nat × Blk) := fun (y0, y1, y2) => []
noncomputable def f87_k (x1 : List Int) : (Int × (List Bool) × Int) → List (Nat × Blk) := fun (y0, y1, y2) => []
noncomputable def f87_A (x1 : List Int) : List G := [(GL x1)]
noncomputable def f87_K (x1 : List Int) : List (Nat × Blk) := []
def f87_C (x1 : List Int) (r : Int × (List Bool) × Int) : Prop := CallOK cx 87 (f87_A x1) (f87_K x1) [] (f87_v r) (f87_k x1 r)

def f88_M : List Nat := [35]
noncomputable def f88_p4_H (x3 x4 : Int) (x2 : List Bool) : GS := ⟨[(3, (GI x3)), (4, (GI x4)), (8, (.r (.agg [.arr .bool 16 x2]))), (9, (GI x4)), (13, (.r (.at (.bool ((x2)[(Int.toNat x4)]?.getD false)))))], []⟩
noncomputable def f88_p4_x : Int → GExit := fun y0 => .normal
noncomputable def f88_p4_s (x3 x4 : Int) (x2 : List Bool) : Int → GS := fun y0 => ⟨[(3, (GI y0)), (8, (.r (.agg [.arr .bool 16 x2]))), (9, (GI x4))], []⟩
def f88_p4_P (x3 x4 : Int) (x2 : List Bool) (r : Int) : Prop := Ex cx f88_M 29 (part Tryd.f88 4) (f88_p4_H x3 x4 x2) (f88_p4_x r) (f88_p4_s x3 x4 x2 r)
noncomputable def f88_p1_H (x2 : List Bool) (x3 x4 : Int) : GS := ⟨[(3, (GI x3)), (8, (.r (.agg [.arr .bool 16 x2]))), (9, (GI x4))], []⟩
noncomputable def f88_p1_x : Int → GExit := fun y0 => (.exit 0)
noncomputable def f88_p1_s (x2 : List Bool) : Int → GS := fun y0 => ⟨[(3, (GI y0))], []⟩
def f88_p1_P (x2 : List Bool) (x3 x4 : Int) (r : Int) : Prop := Lp cx f88_M 29 (part Tryd.f88 1) (f88_p1_H x2 x3 x4) (f88_p1_x r) (f88_p1_s x2 r)
noncomputable def f88_p6_H (x7 x8 : Int) : GS := ⟨[(3, (GI x7)), (6, (GI x8))], []⟩
noncomputable def f88_p6_x : Int → GExit := fun y0 => (.exit 2)
noncomputable def f88_p6_s : Int → GS := fun y0 => ⟨[(3, (GI y0))], []⟩
def f88_p6_P (x7 x8 : Int) (r : Int) : Prop := Lp cx f88_M 29 (part Tryd.f88 6) (f88_p6_H x7 x8) (f88_p6_x r) (f88_p6_s r)
noncomputable def f88_v : Int → G := fun y0 => (GI y0)
noncomputable def f88_k0 : Int → List (Nat × Blk) := fun y0 => []
noncomputable def f88_k (x1 : Int) (x2 : List Bool) : Int → List (Nat × Blk) := fun y0 => []
noncomputable def f88_A (x1 : Int) (x2 : List Bool) : List G := [(.r (.agg [.cell (.int .i64 x1), .arr .bool 16 x2]))]
noncomputable def f88_K (x1 : Int) (x2 : List Bool) : List (Nat × Blk) := []
def f88_C (x1 : Int) (x2 : List Bool) (r : Int) : Prop := CallOK cx 88 (f88_A x1 x2) (f88_K x1 x2) [] (f88_v r) (f88_k x1 x2 r)

def f47_M : List Nat := [30, 33, 34]
noncomputable def f47_v : (Int × Int × Int × Int) → G := fun (y0, y1, y2, y3) => (.tup [(.agg [.cell (.int .i64 y0), .cell (.int .i64 y1), .cell (.int .i64 y2)]), (.at (.int .i64 y3))])
noncomputable def f47_k0 : (Int × Int × Int × Int) → List (Nat × Blk) := fun (y0, y1, y2, y3) => []
noncomputable def f47_k (x1 x2 : List Int) : (Int × Int × Int × Int) → List (Nat × Blk) := fun (y0, y1, y2, y3) => []
noncomputable def f47_A (x1 x2 : List Int) : List G := [(GL x1), (GL x2)]
noncomputable def f47_K (x1 x2 : List Int) : List (Nat × Blk) := []
def f47_C (x1 x2 : List Int) (r : Int × Int × Int × Int) : Prop := CallOK cx 47 (f47_A x1 x2) (f47_K x1 x2) [] (f47_v r) (f47_k x1 x2 r)

def f48_M : List Nat := [37]
noncomputable def f48_v : Int → G := fun y0 => (GI y0)
noncomputable def f48_k0 : Int → List (Nat × Blk) := fun y0 => []
noncomputable def f48_k (x1 x2 x3 : Int) : Int → List (Nat × Blk) := fun y0 => []
noncomputable def f48_A (x1 x2 x3 : Int) : List G := [(.r (.agg [.cell (.int .i64 x1), .cell (.int .i64 x2), .cell (.int .i64 x3)]))]
noncomputable def f48_K (x1 x2 x3 : Int) : List (Nat × Blk) := []
def f48_C (x1 x2 x3 : Int) (r : Int) : Prop := CallOK cx 48 (f48_A x1 x2 x3) (f48_K x1 x2 x3) [] (f48_v r) (f48_k x1 x2 x3 r)

def f128_M : List Nat := []
noncomputable def f128_v : Int → G := fun y0 => (GI y0)
noncomputable def f128_k0 : Int → List (Nat × Blk) := fun y0 => []
noncomputable def f128_k (x1 : Int) : Int → List (Nat × Blk) := fun y0 => []
noncomputable def f128_A (x1 : Int) : List G := [(.r (.at (.int .u64 x1)))]
noncomputable def f128_K (x1 : Int) : List (Nat × Blk) := []
def f128_C (x1 : Int) (r : Int) : Prop := CallOK cx 128 (f128_A x1) (f128_K x1) [] (f128_v r) (f128_k x1 r)

def f98_M : List Nat := []
noncomputable def f98_v : Int → G := fun y0 => (GI y0)
noncomputable def f98_k0 : Int → List (Nat × Blk) := fun y0 => []
noncomputable def f98_k (x1 : Int) : Int → List (Nat × Blk) := fun y0 => []
noncomputable def f98_A (x1 : Int) : List G := [(.r (.at (.int .u64 x1)))]
noncomputable def f98_K (x1 : Int) : List (Nat × Blk) := []
def f98_C (x1 : Int) (r : Int) : Prop := CallOK cx 98 (f98_A x1) (f98_K x1) [] (f98_v r) (f98_k x1 r)

def f89_M : List Nat := []
noncomputable def f89_v : Int → G := fun y0 => (GI y0)
noncomputable def f89_k0 : Int → List (Nat × Blk) := fun y0 => []
noncomputable def f89_k (x1 : Int) : Int → List (Nat × Blk) := fun y0 => []
noncomputable def f89_A (x1 : Int) : List G := [(GI x1)]
noncomputable def f89_K (x1 : Int) : List (Nat × Blk) := []
def f89_C (x1 : Int) (r : Int) : Prop := CallOK cx 89 (f89_A x1) (f89_K x1) [] (f89_v r) (f89_k x1 r)

def f49_M : List Nat := [38, 39]
noncomputable def f49_v : (Int × Int × Int × Int) → G := fun (y0, y1, y2, y3) => (.tup [(.at (.int .i64 y0)), (.agg [.cell (.int .i64 y1), .cell (.int .i64 y2), .cell (.int .i64 y3)])])
noncomputable def f49_k0 : (Int × Int × Int × Int) → List (Nat × Blk) := fun (y0, y1, y2, y3) => []
noncomputable def f49_k (x1 x2 x3 : Int) : (Int × Int × Int × Int) → List (Nat × Blk) := fun (y0, y1, y2, y3) => []
noncomputable def f49_A (x1 x2 x3 : Int) : List G := [(.r (.agg [.cell (.int .i64 x1), .cell (.int .i64 x2), .cell (.int .i64 x3)]))]
noncomputable def f49_K (x1 x2 x3 : Int) : List (Nat × Blk) := []
def f49_C (x1 x2 x3 : Int) (r : Int × Int × Int × Int) : Prop := CallOK cx 49 (f49_A x1 x2 x3) (f49_K x1 x2 x3) [] (f49_v r) (f49_k x1 x2 x3 r)

def f10_M : List Nat := [36, 40, 41]
noncomputable def f10_p4_H (x22 x23 x24 : Int) (x21 : List Int) : GS := ⟨[(6, (.r (.at (.ptr 36 0 0)))), (8, (.r (.at (.sl 41 0 (List.length x21)))))], [(36, (.var [.cell (.int .i64 x22), .cell (.int .i64 x23), .cell (.int .i64 x24)])), (41, (.gr (.int .i64) 3 x21 true))]⟩
noncomputable def f10_p4_x : (List Int) → GExit := fun y0 => (.exit 1)
noncomputable def f10_p4_s : (List Int) → GS := fun y0 => ⟨[(8, (.r (.at (.sl 41 0 (List.length y0)))))], [(41, (.gr (.int .i64) 3 y0 true))]⟩
def f10_p4_P (x22 x23 x24 : Int) (x21 : List Int) (r : (List Int)) : Prop := Lp cx f10_M 39 (part Tryd.f10 4) (f10_p4_H x22 x23 x24 x21) (f10_p4_x r) (f10_p4_s r)
noncomputable def f10_v : ((List Int) × Int) → G := fun (y0, y1) => (.tup [(.at (.lst (.int .i64) y0 false)), (.at (.int .i64 y1))])
noncomputable def f10_k0 : ((List Int) × Int) → List (Nat × Blk) := fun (y0, y1) => []
noncomputable def f10_k (x1 x2 : List Int) : ((List Int) × Int) → List (Nat × Blk) := fun (y0, y1) => []
noncomputable def f10_A (x1 x2 : List Int) : List G := [(GL x1), (GL x2)]
noncomputable def f10_K (x1 x2 : List Int) : List (Nat × Blk) := []
def f10_C (x1 x2 : List Int) (r : (List Int) × Int) : Prop := CallOK cx 10 (f10_A x1 x2) (f10_K x1 x2) [] (f10_v r) (f10_k x1 x2 r)

def f63_M : List Nat := []
noncomputable def f63_p2_H (x1 x2 : List Int) (x3 : Int) : GS := ⟨[(0, (GL x1)), (1, (GL x2)), (12, (.r (.at (.int .i64 ((List.length x1 : Nat) : Int))))), (13, (GI x3))], []⟩
noncomputable def f63_p2_x : f63_p2_R → GExit := fun
  | .c0 => .ret
  | .c1 => (.exit 0)
noncomputable def f63_p2_s (x1 x2 : List Int) : f63_p2_R → GS := fun
  | .c0 => ⟨[(4, (.r (.at (.bool false))))], []⟩
  | .c1 => ⟨[], []⟩
def f63_p2_P (x1 x2 : List Int) (x3 : Int) (r : f63_p2_R) : Prop := Lp cx f63_M 26 (part Tryd.f63 2) (f63_p2_H x1 x2 x3) (f63_p2_x r) (f63_p2_s x1 x2 r)
noncomputable def f63_v : Bool → G := fun y0 => (GB y0)
noncomputable def f63_k0 : Bool → List (Nat × Blk) := fun y0 => []
noncomputable def f63_k (x1 x2 : List Int) : Bool → List (Nat × Blk) := fun y0 => []
noncomputable def f63_A (x1 x2 : List Int) : List G := [(GL x1), (GL x2)]
noncomputable def f63_K (x1 x2 : List Int) : List (Nat × Blk) := []
def f63_C (x1 x2 : List Int) (r : Bool) : Prop := CallOK cx 63 (f63_A x1 x2) (f63_K x1 x2) [] (f63_v r) (f63_k x1 x2 r)

def f54_M : List Nat := []
noncomputable def f54_v : Bool → G := fun y0 => (GB y0)
noncomputable def f54_k0 : Bool → List (Nat × Blk) := fun y0 => []
noncomputable def f54_k : Bool → List (Nat × Blk) := fun y0 => []
noncomputable def f54_A : List G := []
noncomputable def f54_K : List (Nat × Blk) := []
def f54_C (r : Bool) : Prop := CallOK cx 54 (f54_A) (f54_K) [] (f54_v r) (f54_k r)

def f15_M : List Nat := []
noncomputable def f15_v : Bool → G := fun y0 => (GB y0)
noncomputable def f15_k0 : Bool → List (Nat × Blk) := fun y0 => []
noncomputable def f15_k : Bool → List (Nat × Blk) := fun y0 => []
noncomputable def f15_A : List G := []
noncomputable def f15_K : List (Nat × Blk) := []
def f15_C (r : Bool) : Prop := CallOK cx 15 (f15_A) (f15_K) [] (f15_v r) (f15_k r)

def f4_M : List Nat := [1, 2, 3]
noncomputable def f4_p6_H (x1 : Int) (x5 x9 : List Int) (x10 x14 : Int) (x2 x8 : Int) (x16 x17 x18 : Int) : GS := ⟨[(9, (.r (.at (.int .i64 (Int.tmod (w64 (x1)) 11))))), (10, (.r (.at (.ptr 1 0 0)))), (11, (GL x5)), (12, (.r (.at (.ptr 2 0 0)))), (14, (GL x9)), (15, (GI x10)), (17, (GI x16)), (18, (GI x17)), (19, (GI x14)), (20, (GI x18))], [(1, (.var [.cell (.int .i64 (Int.tmod (w64 (x2)) 4))])), (2, (.var [.cell (.int .i64 x8)]))]⟩
noncomputable def f4_p6_x : f4_p6_R → GExit := fun
  | .c0 => .ret
  | .c1 y0 y1 => (.exit 2)
noncomputable def f4_p6_s (x1 : Int) (x5 x9 : List Int) (x10 x14 : Int) (x2 x8 : Int) : f4_p6_R → GS := fun
  | .c0 => ⟨[(8, (.r (.at (.bool false))))], []⟩
  | .c1 y0 y1 => ⟨[(9, (.r (.at (.int .i64 (Int.tmod (w64 (x1)) 11))))), (10, (.r (.at (.ptr 1 0 0)))), (11, (GL x5)), (12, (.r (.at (.ptr 2 0 0)))), (14, (GL x9)), (15, (GI x10)), (17, (GI y0)), (18, (GI y1)), (19, (GI x14))], [(1, (.var [.cell (.int .i64 (Int.tmod (w64 (x2)) 4))])), (2, (.var [.cell (.int .i64 x8)]))]⟩
def f4_p6_P (x1 : Int) (x5 x9 : List Int) (x10 x14 : Int) (x2 x8 : Int) (x16 x17 x18 : Int) (r : f4_p6_R) : Prop := Lp cx f4_M 156 (part Tryd.f4 6) (f4_p6_H x1 x5 x9 x10 x14 x2 x8 x16 x17 x18) (f4_p6_x r) (f4_p6_s x1 x5 x9 x10 x14 x2 x8 r)
noncomputable def f4_p2_H (x1 : Int) (x5 x9 : List Int) (x10 x2 : Int) (x8 x12 : Int) (x13 x14 : Int) : GS := ⟨[(9, (.r (.at (.int .i64 (Int.tmod (w64 (x1)) 11))))), (10, (.r (.at (.ptr 1 0 0)))), (11, (GL x5)), (12, (.r (.at (.ptr 2 0 0)))), (14, (GL x9)), (15, (GI x10)), (17, (GI x12)), (18, (GI x13)), (19, (GI x14))], [(1, (.var [.cell (.int .i64 (Int.tmod (w64 (x2)) 4))])), (2, (.var [.cell (.int .i64 x8)]))]⟩
noncomputable def f4_p2_x : f4_p2_R → GExit := fun
  | .c0 => .ret
  | .c1 y0 y1 => (.exit 0)
noncomputable def f4_p2_s (x1 : Int) (x5 x9 : List Int) (x10 x2 x8 : Int) : f4_p2_R → GS := fun
  | .c0 => ⟨[(8, (.r (.at (.bool false))))], []⟩
  | .c1 y0 y1 => ⟨[(9, (.r (.at (.int .i64 (Int.tmod (w64 (x1)) 11))))), (11, (GL x5)), (12, (.r (.at (.ptr 2 0 0)))), (14, (GL x9)), (15, (GI x10)), (17, (GI y0)), (18, (GI y1))], [(2, (.var [.cell (.int .i64 x8)]))]⟩
def f4_p2_P (x1 : Int) (x5 x9 : List Int) (x10 x2 : Int) (x8 x12 : Int) (x13 x14 : Int) (r : f4_p2_R) : Prop := Lp cx f4_M 156 (part Tryd.f4 2) (f4_p2_H x1 x5 x9 x10 x2 x8 x12 x13 x14) (f4_p2_x r) (f4_p2_s x1 x5 x9 x10 x2 x8 r)
noncomputable def f4_v : Bool → G := fun y0 => (GB y0)
noncomputable def f4_k0 : Bool → List (Nat × Blk) := fun y0 => []
noncomputable def f4_k (x1 x2 : Int) (x3 x4 : Int) : Bool → List (Nat × Blk) := fun y0 => []
noncomputable def f4_A (x1 x2 : Int) (x3 x4 : Int) : List G := [(.r (.at (.int .u8 x1))), (.r (.at (.int .u8 x2))), (.r (.at (.int .u8 x3))), (.r (.at (.int .u8 x4)))]
noncomputable def f4_K (x1 x2 : Int) (x3 x4 : Int) : List (Nat × Blk) := []
def f4_C (x1 x2 : Int) (x3 x4 : Int) (r : Bool) : Prop := CallOK cx 4 (f4_A x1 x2 x3 x4) (f4_K x1 x2 x3 x4) [] (f4_v r) (f4_k x1 x2 x3 x4 r)

end Go.Gh.Top
