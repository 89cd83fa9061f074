/- Near3D0: printed by wip/tool/gx.py -/
import Derived.Test.YtcaphjiiaclndaaNearA
import Derived.Test.YtcaphjiiaclndaaGiC
import Derived.Test.YtcaphjiiaclndaaNear3N0
namespace Go.Gh.Near
set_option linter.unusedVariables false
set_option linter.unusedSimpArgs false
open Go.Proofs
abbrev oL (l : List Nat) : En := .co (.live l)
abbrev oK (l : List Nat) : En := .co (.keep l)
abbrev oV (n : Int) : En := .v (.ipt (.int .i64) n)
abbrev oP (e : GExit) (s : GS) : En := .lp e s.env s.hp

def f13_M : List Nat := [5, 6]
noncomputable def f13_p1_H (x2 x1 : Int) (x4 x5 : Int) (x6 : List Bool) : GS := ⟨[(1, (GI x2)), (4, (.r (.at (.ptr 5 0 0)))), (5, (.r (.at (.ptr 6 0 0)))), (9, (GI x1)), (10, (GI x4))], [(5, (.var [.cell (.int .i64 0), .arr .bool 16 ((List.replicate 16 false) : List Bool)])), (6, (.var [.cell (.int .i64 x5), .arr .bool 16 x6]))]⟩
noncomputable def f13_p1_x : (Int × (List Bool)) → GExit := fun (y0, y1) => (.exit 0)
noncomputable def f13_p1_s (x2 x1 : Int) : (Int × (List Bool)) → GS := fun (y0, y1) => ⟨[(4, (.r (.at (.ptr 5 0 0)))), (5, (.r (.at (.ptr 6 0 0))))], [(5, (.var [.cell (.int .i64 0), .arr .bool 16 ((List.replicate 16 false) : List Bool)])), (6, (.var [.cell (.int .i64 y0), .arr .bool 16 y1]))]⟩
def f13_p1_P (x2 x1 : Int) (x4 x5 : Int) (x6 : List Bool) (r : Int × (List Bool)) : Prop := Lp cx f13_M 26 (part Try.f13 1) (f13_p1_H x2 x1 x4 x5 x6) (f13_p1_x r) (f13_p1_s x2 x1 r)
noncomputable def f13_v : (Int × (List Bool)) → G := fun (y0, y1) => (.r (.agg [.cell (.int .i64 y0), .arr .bool 16 y1]))
noncomputable def f13_k0 : (Int × (List Bool)) → List (Nat × Blk) := fun (y0, y1) => []
noncomputable def f13_k (x1 x2 : Int) : (Int × (List Bool)) → List (Nat × Blk) := fun (y0, y1) => []
noncomputable def f13_A (x1 x2 : Int) : List G := [(GI x1), (GI x2)]
noncomputable def f13_K (x1 x2 : Int) : List (Nat × Blk) := []
def f13_C (x1 x2 : Int) (r : Int × (List Bool)) : Prop := CallOK cx 13 (f13_A x1 x2) (f13_K x1 x2) [] (f13_v r) (f13_k x1 x2 r)

def f14_M : List Nat := [7, 8]
noncomputable def f14_p4_1_H (x1 x7 : Int) (x8 : Bool) (x2 : List Bool) (x6 : List Int) : GS := ⟨[(1, (.r (.at (.ptr 7 0 0)))), (3, (.r (.at (.sl 8 0 (Int.toNat x1))))), (4, (GI x7)), (9, (.r (.at (.int .i64 (((Int.toNat x1) : Nat) : Int))))), (10, (GI x7)), (16, (GB x8))], [(7, (.var [.cell (.int .i64 x1), .arr .bool 16 x2])), (8, (.gr (.int .i64) 3 x6 true))]⟩
noncomputable def f14_p4_1_x : (List Int) → GExit := fun y0 => .normal
noncomputable def f14_p4_1_s (x1 x7 : Int) (x8 : Bool) (x2 : List Bool) (x6 : List Int) : (List Int) → GS := fun y0 => ⟨[(1, (.r (.at (.ptr 7 0 0)))), (3, (.r (.at (.sl 8 0 (Int.toNat x1))))), (9, (.r (.at (.int .i64 (((Int.toNat x1) : Nat) : Int))))), (10, (GI x7))], [(7, (.var [.cell (.int .i64 x1), .arr .bool 16 x2])), (8, (.gr (.int .i64) 3 y0 true))]⟩
def f14_p4_1_P (x1 x7 : Int) (x8 : Bool) (x2 : List Bool) (x6 : List Int) (r : (List Int)) : Prop := Ex cx f14_M 22 (part Try.f14 4) (f14_p4_1_H x1 x7 x8 x2 x6) (f14_p4_1_x r) (f14_p4_1_s x1 x7 x8 x2 x6 r)
noncomputable def f14_p1_H (x1 : Int) (x2 : List Bool) (x7 : Int) (x6 : List Int) : GS := ⟨[(1, (.r (.at (.ptr 7 0 0)))), (3, (.r (.at (.sl 8 0 (Int.toNat x1))))), (9, (.r (.at (.int .i64 (((Int.toNat x1) : Nat) : Int))))), (10, (GI x7))], [(7, (.var [.cell (.int .i64 x1), .arr .bool 16 x2])), (8, (.gr (.int .i64) 3 x6 true))]⟩
noncomputable def f14_p1_x : (List Int) → GExit := fun y0 => (.exit 0)
noncomputable def f14_p1_s (x1 : Int) (x2 : List Bool) : (List Int) → GS := fun y0 => ⟨[(3, (.r (.at (.sl 8 0 (Int.toNat x1)))))], [(8, (.gr (.int .i64) 3 y0 true))]⟩
def f14_p1_P (x1 : Int) (x2 : List Bool) (x7 : Int) (x6 : List Int) (r : (List Int)) : Prop := Lp cx f14_M 22 (part Try.f14 1) (f14_p1_H x1 x2 x7 x6) (f14_p1_x r) (f14_p1_s x1 x2 r)
noncomputable def f14_v : (List Int) → G := fun y0 => (GL y0)
noncomputable def f14_k0 : (List Int) → List (Nat × Blk) := fun y0 => []
noncomputable def f14_k (x1 : Int) (x2 : List Bool) : (List Int) → List (Nat × Blk) := fun y0 => []
noncomputable def f14_A (x1 : Int) (x2 : List Bool) : List G := [(.r (.agg [.cell (.int .i64 x1), .arr .bool 16 x2]))]
noncomputable def f14_K (x1 : Int) (x2 : List Bool) : List (Nat × Blk) := []
def f14_C (x1 : Int) (x2 : List Bool) (r : (List Int)) : Prop := CallOK cx 14 (f14_A x1 x2) (f14_K x1 x2) [] (f14_v r) (f14_k x1 x2 r)

def f4_M : List Nat := []
noncomputable def f4_v : ((List Int) × Int) → G := fun (y0, y1) => (.tup [(.at (.lst (.int .i64) y0 false)), (.at (.int .i64 y1))])
noncomputable def f4_k0 : ((List Int) × Int) → List (Nat × Blk) := fun (y0, y1) => []
noncomputable def f4_k (x1 x2 : Int) : ((List Int) × Int) → List (Nat × Blk) := fun (y0, y1) => []
noncomputable def f4_A (x1 x2 : Int) : List G := [(GI x1), (GI x2)]
noncomputable def f4_K (x1 x2 : Int) : List (Nat × Blk) := []
def f4_C (x1 x2 : Int) (r : (List Int) × Int) : Prop := CallOK cx 4 (f4_A x1 x2) (f4_K x1 x2) [] (f4_v r) (f4_k x1 x2 r)

def f34_M : List Nat := [10, 11]
noncomputable def f34_p8_2_H (x10 x15 : Int) (x1 : List Int) (x11 : Int) (x12 : List Bool) (x13 : Int) (x14 : List Bool) : GS := ⟨[(2, (.r (.at (.ptr 10 0 0)))), (4, (.r (.at (.ptr 11 0 0)))), (5, (GI x10)), (6, (GI x15)), (20, (GL x1)), (21, (.r (.at (.int .i64 ((List.length x1 : Nat) : Int))))), (22, (GI x10)), (27, (GI x15)), (29, (.r (.at (.bool (x15 == 0)))))], [(10, (.var [.cell (.int .i64 x11), .arr .bool 16 x12])), (11, (.var [.cell (.int .i64 x13), .arr .bool 16 x14]))]⟩
noncomputable def f34_p8_2_x : Bool → GExit := fun y0 => .normal
noncomputable def f34_p8_2_s (x10 x15 : Int) (x1 : List Int) (x11 : Int) (x12 : List Bool) (x13 : Int) (x14 : List Bool) : Bool → GS := fun y0 => ⟨[(2, (.r (.at (.ptr 10 0 0)))), (4, (.r (.at (.ptr 11 0 0)))), (5, (GI x10)), (6, (GI x15)), (20, (GL x1)), (21, (.r (.at (.int .i64 ((List.length x1 : Nat) : Int))))), (22, (GI x10)), (29, (GB y0))], [(10, (.var [.cell (.int .i64 x11), .arr .bool 16 x12])), (11, (.var [.cell (.int .i64 x13), .arr .bool 16 x14]))]⟩
def f34_p8_2_P (x10 x15 : Int) (x1 : List Int) (x11 : Int) (x12 : List Bool) (x13 : Int) (x14 : List Bool) (r : Bool) : Prop := Ex cx f34_M 39 (part Try.f34 8) (f34_p8_2_H x10 x15 x1 x11 x12 x13 x14) (f34_p8_2_x r) (f34_p8_2_s x10 x15 x1 x11 x12 x13 x14 r)
noncomputable def f34_p4_H (x1 : List Int) (x10 x11 : Int) (x12 : List Bool) (x13 : Int) (x14 : List Bool) : GS := ⟨[(2, (.r (.at (.ptr 10 0 0)))), (4, (.r (.at (.ptr 11 0 0)))), (20, (GL x1)), (21, (.r (.at (.int .i64 ((List.length x1 : Nat) : Int))))), (22, (GI x10))], [(10, (.var [.cell (.int .i64 x11), .arr .bool 16 x12])), (11, (.var [.cell (.int .i64 x13), .arr .bool 16 x14]))]⟩
noncomputable def f34_p4_x : f34_p4_R → GExit := fun
  | .c0 => .ret
  | .c1 y0 y1 y2 y3 => (.exit 1)
noncomputable def f34_p4_s (x1 : List Int) : f34_p4_R → GS := fun
  | .c0 => ⟨[(2, (.r (.at (.ptr 10 0 0)))), (3, (.r (.at (.int .i64 1))))], [(10, (.var [.cell (.int .i64 0), .arr .bool 16 ((List.replicate 16 false) : List Bool)]))]⟩
  | .c1 y0 y1 y2 y3 => ⟨[(2, (.r (.at (.ptr 10 0 0)))), (4, (.r (.at (.ptr 11 0 0))))], [(10, (.var [.cell (.int .i64 y0), .arr .bool 16 y1])), (11, (.var [.cell (.int .i64 y2), .arr .bool 16 y3]))]⟩
def f34_p4_P (x1 : List Int) (x10 x11 : Int) (x12 : List Bool) (x13 : Int) (x14 : List Bool) (r : f34_p4_R) : Prop := Lp cx f34_M 39 (part Try.f34 4) (f34_p4_H x1 x10 x11 x12 x13 x14) (f34_p4_x r) (f34_p4_s x1 r)
noncomputable def f34_v : (Int × (List Bool) × Int) → G := fun (y0, y1, y2) => (.tup [(.agg [.cell (.int .i64 y0), .arr .bool 16 y1]), (.at (.int .i64 y2))])
noncomputable def f34_k0 : (Int × (List Bool) × Int) → List (Nat × Blk) := fun (y0, y1, y2) => []
noncomputable def f34_k (x1 : List Int) : (Int × (List Bool) × Int) → List (Nat × Blk) := fun (y0, y1, y2) => []
noncomputable def f34_A (x1 : List Int) : List G := [(GL x1)]
noncomputable def f34_K (x1 : List Int) : List (Nat × Blk) := []
def f34_C (x1 : List Int) (r : Int × (List Bool) × Int) : Prop := CallOK cx 34 (f34_A x1) (f34_K x1) [] (f34_v r) (f34_k x1 r)

def f35_M : List Nat := [14]
noncomputable def f35_p4_H (x3 x4 : Int) (x2 : List Bool) : GS := ⟨[(3, (GI x3)), (4, (GI x4)), (8, (.r (.agg [.arr .bool 16 x2]))), (9, (GI x4)), (13, (.r (.at (.bool ((x2)[(Int.toNat x4)]?.getD false)))))], []⟩
noncomputable def f35_p4_x : Int → GExit := fun y0 => .normal
noncomputable def f35_p4_s (x3 x4 : Int) (x2 : List Bool) : Int → GS := fun y0 => ⟨[(3, (GI y0)), (8, (.r (.agg [.arr .bool 16 x2]))), (9, (GI x4))], []⟩
def f35_p4_P (x3 x4 : Int) (x2 : List Bool) (r : Int) : Prop := Ex cx f35_M 29 (part Try.f35 4) (f35_p4_H x3 x4 x2) (f35_p4_x r) (f35_p4_s x3 x4 x2 r)
noncomputable def f35_p1_H (x2 : List Bool) (x3 x4 : Int) : GS := ⟨[(3, (GI x3)), (8, (.r (.agg [.arr .bool 16 x2]))), (9, (GI x4))], []⟩
noncomputable def f35_p1_x : Int → GExit := fun y0 => (.exit 0)
noncomputable def f35_p1_s (x2 : List Bool) : Int → GS := fun y0 => ⟨[(3, (GI y0))], []⟩
def f35_p1_P (x2 : List Bool) (x3 x4 : Int) (r : Int) : Prop := Lp cx f35_M 29 (part Try.f35 1) (f35_p1_H x2 x3 x4) (f35_p1_x r) (f35_p1_s x2 r)
noncomputable def f35_p6_H (x7 x8 : Int) : GS := ⟨[(3, (GI x7)), (6, (GI x8))], []⟩
noncomputable def f35_p6_x : Int → GExit := fun y0 => (.exit 2)
noncomputable def f35_p6_s : Int → GS := fun y0 => ⟨[(3, (GI y0))], []⟩
def f35_p6_P (x7 x8 : Int) (r : Int) : Prop := Lp cx f35_M 29 (part Try.f35 6) (f35_p6_H x7 x8) (f35_p6_x r) (f35_p6_s r)
noncomputable def f35_v : Int → G := fun y0 => (GI y0)
noncomputable def f35_k0 : Int → List (Nat × Blk) := fun y0 => []
noncomputable def f35_k (x1 : Int) (x2 : List Bool) : Int → List (Nat × Blk) := fun y0 => []
noncomputable def f35_A (x1 : Int) (x2 : List Bool) : List G := [(.r (.agg [.cell (.int .i64 x1), .arr .bool 16 x2]))]
noncomputable def f35_K (x1 : Int) (x2 : List Bool) : List (Nat × Blk) := []
def f35_C (x1 : Int) (x2 : List Bool) (r : Int) : Prop := CallOK cx 35 (f35_A x1 x2) (f35_K x1 x2) [] (f35_v r) (f35_k x1 x2 r)

def f15_M : List Nat := [9, 12, 13]
noncomputable def f15_v : (Int × Int × Int × Int) → G := fun (y0, y1, y2, y3) => (.tup [(.agg [.cell (.int .i64 y0), .cell (.int .i64 y1), .cell (.int .i64 y2)]), (.at (.int .i64 y3))])
noncomputable def f15_k0 : (Int × Int × Int × Int) → List (Nat × Blk) := fun (y0, y1, y2, y3) => []
noncomputable def f15_k (x1 x2 : List Int) : (Int × Int × Int × Int) → List (Nat × Blk) := fun (y0, y1, y2, y3) => []
noncomputable def f15_A (x1 x2 : List Int) : List G := [(GL x1), (GL x2)]
noncomputable def f15_K (x1 x2 : List Int) : List (Nat × Blk) := []
def f15_C (x1 x2 : List Int) (r : Int × Int × Int × Int) : Prop := CallOK cx 15 (f15_A x1 x2) (f15_K x1 x2) [] (f15_v r) (f15_k x1 x2 r)

def f16_M : List Nat := [16]
noncomputable def f16_v : Int → G := fun y0 => (GI y0)
noncomputable def f16_k0 : Int → List (Nat × Blk) := fun y0 => []
noncomputable def f16_k (x1 x2 x3 : Int) : Int → List (Nat × Blk) := fun y0 => []
noncomputable def f16_A (x1 x2 x3 : Int) : List G := [(.r (.agg [.cell (.int .i64 x1), .cell (.int .i64 x2), .cell (.int .i64 x3)]))]
noncomputable def f16_K (x1 x2 x3 : Int) : List (Nat × Blk) := []
def f16_C (x1 x2 x3 : Int) (r : Int) : Prop := CallOK cx 16 (f16_A x1 x2 x3) (f16_K x1 x2 x3) [] (f16_v r) (f16_k x1 x2 x3 r)

def f5_M : List Nat := [15]
noncomputable def f5_v : (Int × Int) → G := fun (y0, y1) => (.tup [(.at (.int .i64 y0)), (.at (.int .i64 y1))])
noncomputable def f5_k0 : (Int × Int) → List (Nat × Blk) := fun (y0, y1) => []
noncomputable def f5_k (x1 x2 : List Int) : (Int × Int) → List (Nat × Blk) := fun (y0, y1) => []
noncomputable def f5_A (x1 x2 : List Int) : List G := [(GL x1), (GL x2)]
noncomputable def f5_K (x1 x2 : List Int) : List (Nat × Blk) := []
def f5_C (x1 x2 : List Int) (r : Int × Int) : Prop := CallOK cx 5 (f5_A x1 x2) (f5_K x1 x2) [] (f5_v r) (f5_k x1 x2 r)

def f20_M : List Nat := []
noncomputable def f20_v : Bool → G := fun y0 => (GB y0)
noncomputable def f20_k0 : Bool → List (Nat × Blk) := fun y0 => []
noncomputable def f20_k (x1 x2 x3 : Int) : Bool → List (Nat × Blk) := fun y0 => []
noncomputable def f20_A (x1 x2 x3 : Int) : List G := [(GI x1), (GI x2), (GI x3)]
noncomputable def f20_K (x1 x2 x3 : Int) : List (Nat × Blk) := []
def f20_C (x1 x2 x3 : Int) (r : Bool) : Prop := CallOK cx 20 (f20_A x1 x2 x3) (f20_K x1 x2 x3) [] (f20_v r) (f20_k x1 x2 x3 r)

def f61_M : List Nat := []
noncomputable def f61_v : Bool → G := fun y0 => (GB y0)
noncomputable def f61_k0 : Bool → List (Nat × Blk) := fun y0 => []
noncomputable def f61_k (x1 : Int) : Bool → List (Nat × Blk) := fun y0 => []
noncomputable def f61_A (x1 : Int) : List G := [(GI x1)]
noncomputable def f61_K (x1 : Int) : List (Nat × Blk) := []
def f61_C (x1 : Int) (r : Bool) : Prop := CallOK cx 61 (f61_A x1) (f61_K x1) [] (f61_v r) (f61_k x1 r)

def f68_M : List Nat := []
noncomputable def f68_p1_H (x1 : List Int) (x2 : Int) : GS := ⟨[(0, (GL x1)), (1, (.r (.at (.fn 61)))), (7, (.r (.at (.int .i64 ((List.length x1 : Nat) : Int))))), (8, (GI x2))], []⟩
noncomputable def f68_p1_x : f68_p1_R → GExit := fun
  | .c0 y0 => .ret
  | .c1 => (.exit 0)
noncomputable def f68_p1_s (x1 : List Int) : f68_p1_R → GS := fun
  | .c0 y0 => ⟨[(4, (GI y0))], []⟩
  | .c1 => ⟨[], []⟩
def f68_p1_P (x1 : List Int) (x2 : Int) (r : f68_p1_R) : Prop := Lp cx f68_M 19 (part Try.f68 1) (f68_p1_H x1 x2) (f68_p1_x r) (f68_p1_s x1 r)
noncomputable def f68_v : Int → G := fun y0 => (GI y0)
noncomputable def f68_k0 : Int → List (Nat × Blk) := fun y0 => []
noncomputable def f68_k (x1 : List Int) : Int → List (Nat × Blk) := fun y0 => []
noncomputable def f68_A (x1 : List Int) : List G := [(GL x1), (.r (.at (.fn 61)))]
noncomputable def f68_K (x1 : List Int) : List (Nat × Blk) := []
def f68_C (x1 : List Int) (r : Int) : Prop := CallOK cx 68 (f68_A x1) (f68_K x1) [] (f68_v r) (f68_k x1 r)

def f60_M : List Nat := []
noncomputable def f60_v : Bool → G := fun y0 => (GB y0)
noncomputable def f60_k0 : Bool → List (Nat × Blk) := fun y0 => []
noncomputable def f60_k (x1 : List Int) : Bool → List (Nat × Blk) := fun y0 => []
noncomputable def f60_A (x1 : List Int) : List G := [(GL x1), (.r (.at (.fn 61)))]
noncomputable def f60_K (x1 : List Int) : List (Nat × Blk) := []
def f60_C (x1 : List Int) (r : Bool) : Prop := CallOK cx 60 (f60_A x1) (f60_K x1) [] (f60_v r) (f60_k x1 r)

def f49_M : List Nat := []
noncomputable def f49_v : Int → G := fun y0 => (GI y0)
noncomputable def f49_k0 : Int → List (Nat × Blk) := fun y0 => []
noncomputable def f49_k (x1 : List Int) (x2 : Int) : Int → List (Nat × Blk) := fun y0 => []
noncomputable def f49_A (x1 : List Int) (x2 : Int) : List G := [(GL x1), (GI x2)]
noncomputable def f49_K (x1 : List Int) (x2 : Int) : List (Nat × Blk) := []
def f49_C (x1 : List Int) (x2 : Int) (r : Int) : Prop := CallOK cx 49 (f49_A x1 x2) (f49_K x1 x2) [] (f49_v r) (f49_k x1 x2 r)

def f36_M : List Nat := []
noncomputable def f36_p4_H (x1 : List (List Int)) (x3 : Int) : GS := ⟨[(0, (.r (.at (.lst (.list (.int .i64)) x1 false)))), (21, (.r (.at (.lst (.list (.int .i64)) x1 false)))), (22, (.r (.at (.int .i64 ((List.length x1 : Nat) : Int))))), (23, (GI x3))], []⟩
noncomputable def f36_p4_x : f36_p4_R → GExit := fun
  | .c0 y0 => .ret
  | .c1 => (.exit 1)
noncomputable def f36_p4_s (x1 : List (List Int)) : f36_p4_R → GS := fun
  | .c0 y0 => ⟨[(2, (GI y0))], []⟩
  | .c1 => ⟨[], []⟩
def f36_p4_P (x1 : List (List Int)) (x3 : Int) (r : f36_p4_R) : Prop := Lp cx f36_M 37 (part Try.f36 4) (f36_p4_H x1 x3) (f36_p4_x r) (f36_p4_s x1 r)
noncomputable def f36_v : Int → G := fun y0 => (GI y0)
noncomputable def f36_k0 : Int → List (Nat × Blk) := fun y0 => []
noncomputable def f36_k (x1 : List (List Int)) : Int → List (Nat × Blk) := fun y0 => []
noncomputable def f36_A (x1 : List (List Int)) : List G := [(.r (.at (.lst (.list (.int .i64)) x1 false)))]
noncomputable def f36_K (x1 : List (List Int)) : List (Nat × Blk) := []
def f36_C (x1 : List (List Int)) (r : Int) : Prop := CallOK cx 36 (f36_A x1) (f36_K x1) [] (f36_v r) (f36_k x1 r)

def f17_M : List Nat := [19, 20]
noncomputable def f17_v : f17_R → G := fun
  | .c0 y0 => (.tup [(.at .nilp), (.at (.int .i64 y0))])
  | .c1 y0 y1 y2 y3 => (.tup [(.at (.ptr 20 0 0)), (.at (.int .i64 y0))])
noncomputable def f17_k0 : f17_R → List (Nat × Blk) := fun
  | .c0 y0 => []
  | .c1 y0 y1 y2 y3 => [(19, (.mpb (.pair (.int .i64) (.pair (.int .i64) (.pair (.int .u8) .unit))) (.pair (.int .i64) (.pair (.int .i64) .unit)) y1)), (20, (.var [.cell (.lst (.list (.int .i64)) y2 false), .cell (.int .i64 y3), .cell (.mp 19)]))]
noncomputable def f17_k (x1 : List (List Int)) : f17_R → List (Nat × Blk) := fun
  | .c0 y0 => []
  | .c1 y0 y1 y2 y3 => [(19, (.mpb (.pair (.int .i64) (.pair (.int .i64) (.pair (.int .u8) .unit))) (.pair (.int .i64) (.pair (.int .i64) .unit)) y1)), (20, (.var [.cell (.lst (.list (.int .i64)) y2 false), .cell (.int .i64 y3), .cell (.mp 19)]))]
noncomputable def f17_A (x1 : List (List Int)) : List G := [(.r (.at (.lst (.list (.int .i64)) x1 false)))]
noncomputable def f17_K (x1 : List (List Int)) : List (Nat × Blk) := []
def f17_C (x1 : List (List Int)) (r : f17_R) : Prop := CallOK cx 17 (f17_A x1) (f17_K x1) [] (f17_v r) (f17_k x1 r)

def f19_M : List Nat := []
noncomputable def f19_v : f19_R → G := fun r => nomatch r
noncomputable def f19_k0 : f19_R → List (Nat × Blk) := fun r => nomatch r
noncomputable def f19_k : f19_R → List (Nat × Blk) := fun r => nomatch r
noncomputable def f19_A : List G := [(.r (.at .nilp))]
noncomputable def f19_K : List (Nat × Blk) := []
def f19_C (r : f19_R) : Prop := CallOK cx 19 (f19_A) (f19_K) [] (f19_v r) (f19_k r)

def f18_M : List Nat := []
noncomputable def f18_v : f18_R → G := fun r => nomatch r
noncomputable def f18_k0 : f18_R → List (Nat × Blk) := fun r => nomatch r
noncomputable def f18_k : f18_R → List (Nat × Blk) := fun r => nomatch r
noncomputable def f18_A : List G := [(.r (.at .nilp))]
noncomputable def f18_K : List (Nat × Blk) := []
def f18_C (r : f18_R) : Prop := CallOK cx 18 (f18_A) (f18_K) [] (f18_v r) (f18_k r)

def f19_1_M : List Nat := []
noncomputable def f19_1_v : Int → G := fun y0 => (.r (.at (.int .u8 y0)))
noncomputable def f19_1_k0 : Int → List (Nat × Blk) := fun y0 => []
noncomputable def f19_1_k (x1 : Mm) (x2 : List (List Int)) (x3 : Int) : Int → List (Nat × Blk) := fun y0 => [(19, (.mpb (.pair (.int .i64) (.pair (.int .i64) (.pair (.int .u8) .unit))) (.pair (.int .i64) (.pair (.int .i64) .unit)) x1)), (20, (.var [.cell (.lst (.list (.int .i64)) x2 false), .cell (.int .i64 x3), .cell (.mp 19)]))]
noncomputable def f19_1_A (x1 : Mm) (x2 : List (List Int)) (x3 : Int) : List G := [(.r (.at (.ptr 20 0 0)))]
noncomputable def f19_1_K (x1 : Mm) (x2 : List (List Int)) (x3 : Int) : List (Nat × Blk) := [(19, (.mpb (.pair (.int .i64) (.pair (.int .i64) (.pair (.int .u8) .unit))) (.pair (.int .i64) (.pair (.int .i64) .unit)) x1)), (20, (.var [.cell (.lst (.list (.int .i64)) x2 false), .cell (.int .i64 x3), .cell (.mp 19)]))]
def f19_1_C (x1 : Mm) (x2 : List (List Int)) (x3 : Int) (r : Int) : Prop := CallOK cx 19 (f19_1_A x1 x2 x3) (f19_1_K x1 x2 x3) [] (f19_1_v r) (f19_1_k x1 x2 x3 r)

def f21_M : List Nat := []
noncomputable def f21_v : (Int × Bool) → G := fun (y0, y1) => (.tup [(.at (.int .u8 y0)), (.at (.bool y1))])
noncomputable def f21_k0 : (Int × Bool) → List (Nat × Blk) := fun (y0, y1) => []
noncomputable def f21_k (x1 x2 : Int) : (Int × Bool) → List (Nat × Blk) := fun (y0, y1) => []
noncomputable def f21_A (x1 x2 : Int) : List G := [(.r (.at (.int .u8 x1))), (GI x2)]
noncomputable def f21_K (x1 x2 : Int) : List (Nat × Blk) := []
def f21_C (x1 x2 : Int) (r : Int × Bool) : Prop := CallOK cx 21 (f21_A x1 x2) (f21_K x1 x2) [] (f21_v r) (f21_k x1 x2 r)

def f22_M : List Nat := []
noncomputable def f22_v : Int → G := fun y0 => (GI y0)
noncomputable def f22_k0 : Int → List (Nat × Blk) := fun y0 => []
noncomputable def f22_k (x1 x2 : Int) (x3 : Mm) (x4 : List (List Int)) (x5 : Int) : Int → List (Nat × Blk) := fun y0 => [(19, (.mpb (.pair (.int .i64) (.pair (.int .i64) (.pair (.int .u8) .unit))) (.pair (.int .i64) (.pair (.int .i64) .unit)) x3)), (20, (.var [.cell (.lst (.list (.int .i64)) x4 false), .cell (.int .i64 x5), .cell (.mp 19)]))]
noncomputable def f22_A (x1 x2 : Int) (x3 : Mm) (x4 : List (List Int)) (x5 : Int) : List G := [(.r (.at (.ptr 20 0 0))), (GI x1), (GI x2)]
noncomputable def f22_K (x1 x2 : Int) (x3 : Mm) (x4 : List (List Int)) (x5 : Int) : List (Nat × Blk) := [(19, (.mpb (.pair (.int .i64) (.pair (.int .i64) (.pair (.int .u8) .unit))) (.pair (.int .i64) (.pair (.int .i64) .unit)) x3)), (20, (.var [.cell (.lst (.list (.int .i64)) x4 false), .cell (.int .i64 x5), .cell (.mp 19)]))]
def f22_C (x1 x2 : Int) (x3 : Mm) (x4 : List (List Int)) (x5 : Int) (r : Int) : Prop := CallOK cx 22 (f22_A x1 x2 x3 x4 x5) (f22_K x1 x2 x3 x4 x5) [] (f22_v r) (f22_k x1 x2 x3 x4 x5 r)

def f37_M : List Nat := [22, 23, 24, 25, 26]
noncomputable def f37_p9_1_H (x17 x23 : Int) (x26 x19 : Int) (x25 : Mm) (x5 : List (List Int)) (x6 x1 : Int) (x2 x3 : Int) (x20 x24 : Int) : GS := ⟨[(0, (.r (.at (.ptr 20 0 0)))), (3, (.r (.at (.ptr 22 0 0)))), (4, (.r (.at (.ptr 23 0 0)))), (7, (.r (.at (.ptr 25 0 0)))), (8, (GI x17)), (11, (.r (.at (.ptr 26 0 0)))), (86, (.r (.at (.bool ((w64 (x23 + x26)) == x19)))))], [(19, (.mpb (.pair (.int .i64) (.pair (.int .i64) (.pair (.int .u8) .unit))) (.pair (.int .i64) (.pair (.int .i64) .unit)) x25)), (20, (.var [.cell (.lst (.list (.int .i64)) x5 false), .cell (.int .i64 x6), .cell (.mp 19)])), (22, (.var [.cell (.int .i64 x1), .cell (.int .i64 x2), .cell (.int .u8 x3)])), (23, (.var [.cell (.int .i64 0), .cell (.int .i64 0)])), (25, (.var [.cell (.int .i64 x19), .cell (.int .i64 x20)])), (26, (.var [.cell (.int .i64 (w64 (x23 + x26))), .cell (.int .i64 x24)]))]⟩
noncomputable def f37_p9_1_x : Int → GExit := fun y0 => .normal
noncomputable def f37_p9_1_s (x17 x23 : Int) (x26 x19 : Int) (x25 : Mm) (x5 : List (List Int)) (x6 x1 : Int) (x2 x3 : Int) (x20 x24 : Int) : Int → GS := fun y0 => ⟨[(0, (.r (.at (.ptr 20 0 0)))), (3, (.r (.at (.ptr 22 0 0)))), (4, (.r (.at (.ptr 23 0 0)))), (7, (.r (.at (.ptr 25 0 0)))), (8, (GI x17))], [(19, (.mpb (.pair (.int .i64) (.pair (.int .i64) (.pair (.int .u8) .unit))) (.pair (.int .i64) (.pair (.int .i64) .unit)) x25)), (20, (.var [.cell (.lst (.list (.int .i64)) x5 false), .cell (.int .i64 x6), .cell (.mp 19)])), (22, (.var [.cell (.int .i64 x1), .cell (.int .i64 x2), .cell (.int .u8 x3)])), (23, (.var [.cell (.int .i64 0), .cell (.int .i64 0)])), (25, (.var [.cell (.int .i64 x19), .cell (.int .i64 y0)]))]⟩
def f37_p9_1_P (x17 x23 : Int) (x26 x19 : Int) (x25 : Mm) (x5 : List (List Int)) (x6 x1 : Int) (x2 x3 : Int) (x20 x24 : Int) (r : Int) : Prop := Ex cx f37_M 105 (part Try.f37 9) (f37_p9_1_H x17 x23 x26 x19 x25 x5 x6 x1 x2 x3 x20 x24) (f37_p9_1_x r) (f37_p9_1_s x17 x23 x26 x19 x25 x5 x6 x1 x2 x3 x20 x24 r)
noncomputable def f37_p8_1_H (x17 x23 : Int) (x26 x19 : Int) (x25 : Mm) (x5 : List (List Int)) (x6 x1 : Int) (x2 x3 : Int) (x20 x24 : Int) : GS := ⟨[(0, (.r (.at (.ptr 20 0 0)))), (3, (.r (.at (.ptr 22 0 0)))), (4, (.r (.at (.ptr 23 0 0)))), (7, (.r (.at (.ptr 25 0 0)))), (8, (GI x17)), (11, (.r (.at (.ptr 26 0 0)))), (79, (.r (.at (.bool (decide ((w64 (x23 + x26)) > x19))))))], [(19, (.mpb (.pair (.int .i64) (.pair (.int .i64) (.pair (.int .u8) .unit))) (.pair (.int .i64) (.pair (.int .i64) .unit)) x25)), (20, (.var [.cell (.lst (.list (.int .i64)) x5 false), .cell (.int .i64 x6), .cell (.mp 19)])), (22, (.var [.cell (.int .i64 x1), .cell (.int .i64 x2), .cell (.int .u8 x3)])), (23, (.var [.cell (.int .i64 0), .cell (.int .i64 0)])), (25, (.var [.cell (.int .i64 x19), .cell (.int .i64 x20)])), (26, (.var [.cell (.int .i64 (w64 (x23 + x26))), .cell (.int .i64 x24)]))]⟩
noncomputable def f37_p8_1_x : (Int × Int) → GExit := fun (y0, y1) => .normal
noncomputable def f37_p8_1_s (x17 x23 : Int) (x26 x19 : Int) (x25 : Mm) (x5 : List (List Int)) (x6 x1 : Int) (x2 x3 : Int) (x20 x24 : Int) : (Int × Int) → GS := fun (y0, y1) => ⟨[(0, (.r (.at (.ptr 20 0 0)))), (3, (.r (.at (.ptr 22 0 0)))), (4, (.r (.at (.ptr 23 0 0)))), (7, (.r (.at (.ptr 25 0 0)))), (8, (GI x17))], [(19, (.mpb (.pair (.int .i64) (.pair (.int .i64) (.pair (.int .u8) .unit))) (.pair (.int .i64) (.pair (.int .i64) .unit)) x25)), (20, (.var [.cell (.lst (.list (.int .i64)) x5 false), .cell (.int .i64 x6), .cell (.mp 19)])), (22, (.var [.cell (.int .i64 x1), .cell (.int .i64 x2), .cell (.int .u8 x3)])), (23, (.var [.cell (.int .i64 0), .cell (.int .i64 0)])), (25, (.var [.cell (.int .i64 y0), .cell (.int .i64 y1)]))]⟩
def f37_p8_1_P (x17 x23 : Int) (x26 x19 : Int) (x25 : Mm) (x5 : List (List Int)) (x6 x1 : Int) (x2 x3 : Int) (x20 x24 : Int) (r : Int × Int) : Prop := Ex cx f37_M 105 (part Try.f37 8) (f37_p8_1_H x17 x23 x26 x19 x25 x5 x6 x1 x2 x3 x20 x24) (f37_p8_1_x r) (f37_p8_1_s x17 x23 x26 x19 x25 x5 x6 x1 x2 x3 x20 x24 r)
noncomputable def f37_p9_2_H (x17 x30 : Int) (x33 x19 : Int) (x32 : Mm) (x5 : List (List Int)) (x6 x1 : Int) (x2 x3 : Int) (x20 x31 : Int) : GS := ⟨[(0, (.r (.at (.ptr 20 0 0)))), (3, (.r (.at (.ptr 22 0 0)))), (4, (.r (.at (.ptr 23 0 0)))), (7, (.r (.at (.ptr 25 0 0)))), (8, (GI x17)), (11, (.r (.at (.ptr 26 0 0)))), (86, (.r (.at (.bool ((w64 (x30 + x33)) == x19)))))], [(19, (.mpb (.pair (.int .i64) (.pair (.int .i64) (.pair (.int .u8) .unit))) (.pair (.int .i64) (.pair (.int .i64) .unit)) x32)), (20, (.var [.cell (.lst (.list (.int .i64)) x5 false), .cell (.int .i64 x6), .cell (.mp 19)])), (22, (.var [.cell (.int .i64 x1), .cell (.int .i64 x2), .cell (.int .u8 x3)])), (23, (.var [.cell (.int .i64 0), .cell (.int .i64 0)])), (25, (.var [.cell (.int .i64 x19), .cell (.int .i64 x20)])), (26, (.var [.cell (.int .i64 (w64 (x30 + x33))), .cell (.int .i64 x31)]))]⟩
noncomputable def f37_p9_2_x : Int → GExit := fun y0 => .normal
noncomputable def f37_p9_2_s (x17 x30 : Int) (x33 x19 : Int) (x32 : Mm) (x5 : List (List Int)) (x6 x1 : Int) (x2 x3 : Int) (x20 x31 : Int) : Int → GS := fun y0 => ⟨[(0, (.r (.at (.ptr 20 0 0)))), (3, (.r (.at (.ptr 22 0 0)))), (4, (.r (.at (.ptr 23 0 0)))), (7, (.r (.at (.ptr 25 0 0)))), (8, (GI x17))], [(19, (.mpb (.pair (.int .i64) (.pair (.int .i64) (.pair (.int .u8) .unit))) (.pair (.int .i64) (.pair (.int .i64) .unit)) x32)), (20, (.var [.cell (.lst (.list (.int .i64)) x5 false), .cell (.int .i64 x6), .cell (.mp 19)])), (22, (.var [.cell (.int .i64 x1), .cell (.int .i64 x2), .cell (.int .u8 x3)])), (23, (.var [.cell (.int .i64 0), .cell (.int .i64 0)])), (25, (.var [.cell (.int .i64 x19), .cell (.int .i64 y0)]))]⟩
def f37_p9_2_P (x17 x30 : Int) (x33 x19 : Int) (x32 : Mm) (x5 : List (List Int)) (x6 x1 : Int) (x2 x3 : Int) (x20 x31 : Int) (r : Int) : Prop := Ex cx f37_M 105 (part Try.f37 9) (f37_p9_2_H x17 x30 x33 x19 x32 x5 x6 x1 x2 x3 x20 x31) (f37_p9_2_x r) (f37_p9_2_s x17 x30 x33 x19 x32 x5 x6 x1 x2 x3 x20 x31 r)
noncomputable def f37_p8_2_H (x17 x30 : Int) (x33 x19 : Int) (x32 : Mm) (x5 : List (List Int)) (x6 x1 : Int) (x2 x3 : Int) (x20 x31 : Int) : GS := ⟨[(0, (.r (.at (.ptr 20 0 0)))), (3, (.r (.at (.ptr 22 0 0)))), (4, (.r (.at (.ptr 23 0 0)))), (7, (.r (.at (.ptr 25 0 0)))), (8, (GI x17)), (11, (.r (.at (.ptr 26 0 0)))), (79, (.r (.at (.bool (decide ((w64 (x30 + x33)) > x19))))))], [(19, (.mpb (.pair (.int .i64) (.pair (.int .i64) (.pair (.int .u8) .unit))) (.pair (.int .i64) (.pair (.int .i64) .unit)) x32)), (20, (.var [.cell (.lst (.list (.int .i64)) x5 false), .cell (.int .i64 x6), .cell (.mp 19)])), (22, (.var [.cell (.int .i64 x1), .cell (.int .i64 x2), .cell (.int .u8 x3)])), (23, (.var [.cell (.int .i64 0), .cell (.int .i64 0)])), (25, (.var [.cell (.int .i64 x19), .cell (.int .i64 x20)])), (26, (.var [.cell (.int .i64 (w64 (x30 + x33))), .cell (.int .i64 x31)]))]⟩
noncomputable def f37_p8_2_x : (Int × Int) → GExit := fun (y0, y1) => .normal
noncomputable def f37_p8_2_s (x17 x30 : Int) (x33 x19 : Int) (x32 : Mm) (x5 : List (List Int)) (x6 x1 : Int) (x2 x3 : Int) (x20 x31 : Int) : (Int × Int) → GS := fun (y0, y1) => ⟨[(0, (.r (.at (.ptr 20 0 0)))), (3, (.r (.at (.ptr 22 0 0)))), (4, (.r (.at (.ptr 23 0 0)))), (7, (.r (.at (.ptr 25 0 0)))), (8, (GI x17))], [(19, (.mpb (.pair (.int .i64) (.pair (.int .i64) (.pair (.int .u8) .unit))) (.pair (.int .i64) (.pair (.int .i64) .unit)) x32)), (20, (.var [.cell (.lst (.list (.int .i64)) x5 false), .cell (.int .i64 x6), .cell (.mp 19)])), (22, (.var [.cell (.int .i64 x1), .cell (.int .i64 x2), .cell (.int .u8 x3)])), (23, (.var [.cell (.int .i64 0), .cell (.int .i64 0)])), (25, (.var [.cell (.int .i64 y0), .cell (.int .i64 y1)]))]⟩
def f37_p8_2_P (x17 x30 : Int) (x33 x19 : Int) (x32 : Mm) (x5 : List (List Int)) (x6 x1 : Int) (x2 x3 : Int) (x20 x31 : Int) (r : Int × Int) : Prop := Ex cx f37_M 105 (part Try.f37 8) (f37_p8_2_H x17 x30 x33 x19 x32 x5 x6 x1 x2 x3 x20 x31) (f37_p8_2_x r) (f37_p8_2_s x17 x30 x33 x19 x32 x5 x6 x1 x2 x3 x20 x31 r)
noncomputable def f37_p3_H (x5 : List (List Int)) (x6 x1 : Int) (x2 x3 x17 : Int) (x18 : Mm) (x19 x20 : Int) : GS := ⟨[(0, (.r (.at (.ptr 20 0 0)))), (3, (.r (.at (.ptr 22 0 0)))), (4, (.r (.at (.ptr 23 0 0)))), (7, (.r (.at (.ptr 25 0 0)))), (8, (GI x17))], [(19, (.mpb (.pair (.int .i64) (.pair (.int .i64) (.pair (.int .u8) .unit))) (.pair (.int .i64) (.pair (.int .i64) .unit)) x18)), (20, (.var [.cell (.lst (.list (.int .i64)) x5 false), .cell (.int .i64 x6), .cell (.mp 19)])), (22, (.var [.cell (.int .i64 x1), .cell (.int .i64 x2), .cell (.int .u8 x3)])), (23, (.var [.cell (.int .i64 0), .cell (.int .i64 0)])), (25, (.var [.cell (.int .i64 x19), .cell (.int .i64 x20)]))]⟩
noncomputable def f37_p3_x : (Mm × Int × Int) → GExit := fun (y0, y1, y2) => (.exit 0)
noncomputable def f37_p3_s (x5 : List (List Int)) (x6 x1 : Int) (x2 x3 : Int) : (Mm × Int × Int) → GS := fun (y0, y1, y2) => ⟨[(0, (.r (.at (.ptr 20 0 0)))), (3, (.r (.at (.ptr 22 0 0)))), (4, (.r (.at (.ptr 23 0 0)))), (7, (.r (.at (.ptr 25 0 0))))], [(19, (.mpb (.pair (.int .i64) (.pair (.int .i64) (.pair (.int .u8) .unit))) (.pair (.int .i64) (.pair (.int .i64) .unit)) y0)), (20, (.var [.cell (.lst (.list (.int .i64)) x5 false), .cell (.int .i64 x6), .cell (.mp 19)])), (22, (.var [.cell (.int .i64 x1), .cell (.int .i64 x2), .cell (.int .u8 x3)])), (23, (.var [.cell (.int .i64 0), .cell (.int .i64 0)])), (25, (.var [.cell (.int .i64 y1), .cell (.int .i64 y2)]))]⟩
def f37_p3_P (x5 : List (List Int)) (x6 x1 : Int) (x2 x3 x17 : Int) (x18 : Mm) (x19 x20 : Int) (r : Mm × Int × Int) : Prop := Lp cx f37_M 105 (part Try.f37 3) (f37_p3_H x5 x6 x1 x2 x3 x17 x18 x19 x20) (f37_p3_x r) (f37_p3_s x5 x6 x1 x2 x3 r)
noncomputable def f37_v : (Int × Int × Mm) → G := fun (y0, y1, y2) => (.r (.agg [.cell (.int .i64 y0), .cell (.int .i64 y1)]))
noncomputable def f37_k0 : (Int × Int × Mm) → List (Nat × Blk) := fun (y0, y1, y2) => [(19, (.mpb (.pair (.int .i64) (.pair (.int .i64) (.pair (.int .u8) .unit))) (.pair (.int .i64) (.pair (.int .i64) .unit)) y2))]
noncomputable def f37_k (x1 x2 x3 : Int) (x4 : Mm) (x5 : List (List Int)) (x6 : Int) : (Int × Int × Mm) → List (Nat × Blk) := fun (y0, y1, y2) => [(19, (.mpb (.pair (.int .i64) (.pair (.int .i64) (.pair (.int .u8) .unit))) (.pair (.int .i64) (.pair (.int .i64) .unit)) y2)), (20, (.var [.cell (.lst (.list (.int .i64)) x5 false), .cell (.int .i64 x6), .cell (.mp 19)]))]
noncomputable def f37_A (x1 x2 x3 : Int) (x4 : Mm) (x5 : List (List Int)) (x6 : Int) : List G := [(.r (.at (.ptr 20 0 0))), (.r (.agg [.cell (.int .i64 x1), .cell (.int .i64 x2), .cell (.int .u8 x3)]))]
noncomputable def f37_K (x1 x2 x3 : Int) (x4 : Mm) (x5 : List (List Int)) (x6 : Int) : List (Nat × Blk) := [(19, (.mpb (.pair (.int .i64) (.pair (.int .i64) (.pair (.int .u8) .unit))) (.pair (.int .i64) (.pair (.int .i64) .unit)) x4)), (20, (.var [.cell (.lst (.list (.int .i64)) x5 false), .cell (.int .i64 x6), .cell (.mp 19)]))]
def f37_C (x1 x2 x3 : Int) (x4 : Mm) (x5 : List (List Int)) (x6 : Int) (r : Int × Int × Mm) : Prop := CallOK cx 37 (f37_A x1 x2 x3 x4 x5 x6) (f37_K x1 x2 x3 x4 x5 x6) [] (f37_v r) (f37_k x1 x2 x3 x4 x5 x6 r)

def f18_1_M : List Nat := [27]
noncomputable def f18_1_p5_2_H (x64 : Int) (x2 : List (List Int)) (x3 x79 x80 : Int) (x81 : Mm) (x78 : List Int) : GS := ⟨[(0, (.r (.at (.ptr 20 0 0)))), (3, (.r (.at (.int .u8 x79)))), (4, (.r (.at (.sl 27 0 (List.length x78))))), (5, (GI x64)), (6, (GI x80)), (15, (.r (.at (.int .i64 ((List.length x2 : Nat) : Int))))), (16, (GI x64))], [(19, (.mpb (.pair (.int .i64) (.pair (.int .i64) (.pair (.int .u8) .unit))) (.pair (.int .i64) (.pair (.int .i64) .unit)) x81)), (20, (.var [.cell (.lst (.list (.int .i64)) x2 false), .cell (.int .i64 x3), .cell (.mp 19)])), (27, (.gr (.int .i64) 3 x78 true))]⟩
noncomputable def f18_1_p5_2_x : (Int × Mm × (List Int)) → GExit := fun (y0, y1, y2) => (.exit 2)
noncomputable def f18_1_p5_2_s (x64 : Int) (x2 : List (List Int)) (x3 : Int) : (Int × Mm × (List Int)) → GS := fun (y0, y1, y2) => ⟨[(0, (.r (.at (.ptr 20 0 0)))), (3, (.r (.at (.int .u8 y0)))), (4, (.r (.at (.sl 27 0 (List.length y2))))), (15, (.r (.at (.int .i64 ((List.length x2 : Nat) : Int))))), (16, (GI x64))], [(19, (.mpb (.pair (.int .i64) (.pair (.int .i64) (.pair (.int .u8) .unit))) (.pair (.int .i64) (.pair (.int .i64) .unit)) y1)), (20, (.var [.cell (.lst (.list (.int .i64)) x2 false), .cell (.int .i64 x3), .cell (.mp 19)])), (27, (.gr (.int .i64) 3 y2 true))]⟩
def f18_1_p5_2_P (x64 : Int) (x2 : List (List Int)) (x3 x79 x80 : Int) (x81 : Mm) (x78 : List Int) (r : Int × Mm × (List Int)) : Prop := Lp cx f18_1_M 62 (part Try.f18 5) (f18_1_p5_2_H x64 x2 x3 x79 x80 x81 x78) (f18_1_p5_2_x r) (f18_1_p5_2_s x64 x2 x3 r)
noncomputable def f18_1_p1_H (x2 : List (List Int)) (x3 x63 x64 : Int) (x65 : Mm) (x62 : List Int) : GS := ⟨[(0, (.r (.at (.ptr 20 0 0)))), (3, (.r (.at (.int .u8 x63)))), (4, (.r (.at (.sl 27 0 (List.length x62))))), (15, (.r (.at (.int .i64 ((List.length x2 : Nat) : Int))))), (16, (GI x64))], [(19, (.mpb (.pair (.int .i64) (.pair (.int .i64) (.pair (.int .u8) .unit))) (.pair (.int .i64) (.pair (.int .i64) .unit)) x65)), (20, (.var [.cell (.lst (.list (.int .i64)) x2 false), .cell (.int .i64 x3), .cell (.mp 19)])), (27, (.gr (.int .i64) 3 x62 true))]⟩
noncomputable def f18_1_p1_x : (Mm × (List Int)) → GExit := fun (y0, y1) => (.exit 0)
noncomputable def f18_1_p1_s (x2 : List (List Int)) (x3 : Int) : (Mm × (List Int)) → GS := fun (y0, y1) => ⟨[(4, (.r (.at (.sl 27 0 (List.length y1)))))], [(19, (.mpb (.pair (.int .i64) (.pair (.int .i64) (.pair (.int .u8) .unit))) (.pair (.int .i64) (.pair (.int .i64) .unit)) y0)), (20, (.var [.cell (.lst (.list (.int .i64)) x2 false), .cell (.int .i64 x3), .cell (.mp 19)])), (27, (.gr (.int .i64) 3 y1 true))]⟩
def f18_1_p1_P (x2 : List (List Int)) (x3 x63 x64 : Int) (x65 : Mm) (x62 : List Int) (r : Mm × (List Int)) : Prop := Lp cx f18_1_M 62 (part Try.f18 1) (f18_1_p1_H x2 x3 x63 x64 x65 x62) (f18_1_p1_x r) (f18_1_p1_s x2 x3 r)
noncomputable def f18_1_v : ((List Int) × Mm) → G := fun (y0, y1) => (GL y0)
noncomputable def f18_1_k0 : ((List Int) × Mm) → List (Nat × Blk) := fun (y0, y1) => [(19, (.mpb (.pair (.int .i64) (.pair (.int .i64) (.pair (.int .u8) .unit))) (.pair (.int .i64) (.pair (.int .i64) .unit)) y1))]
noncomputable def f18_1_k (x1 : Mm) (x2 : List (List Int)) (x3 : Int) : ((List Int) × Mm) → List (Nat × Blk) := fun (y0, y1) => [(19, (.mpb (.pair (.int .i64) (.pair (.int .i64) (.pair (.int .u8) .unit))) (.pair (.int .i64) (.pair (.int .i64) .unit)) y1)), (20, (.var [.cell (.lst (.list (.int .i64)) x2 false), .cell (.int .i64 x3), .cell (.mp 19)]))]
noncomputable def f18_1_A (x1 : Mm) (x2 : List (List Int)) (x3 : Int) : List G := [(.r (.at (.ptr 20 0 0)))]
noncomputable def f18_1_K (x1 : Mm) (x2 : List (List Int)) (x3 : Int) : List (Nat × Blk) := [(19, (.mpb (.pair (.int .i64) (.pair (.int .i64) (.pair (.int .u8) .unit))) (.pair (.int .i64) (.pair (.int .i64) .unit)) x1)), (20, (.var [.cell (.lst (.list (.int .i64)) x2 false), .cell (.int .i64 x3), .cell (.mp 19)]))]
def f18_1_C (x1 : Mm) (x2 : List (List Int)) (x3 : Int) (r : (List Int) × Mm) : Prop := CallOK cx 18 (f18_1_A x1 x2 x3) (f18_1_K x1 x2 x3) [] (f18_1_v r) (f18_1_k x1 x2 x3 r)

def f6_1_M : List Nat := [19, 20]
noncomputable def f6_1_v : ((List Int) × Int) → G := fun (y0, y1) => (.tup [(.at (.lst (.int .i64) y0 false)), (.at (.int .i64 y1))])
noncomputable def f6_1_k0 : ((List Int) × Int) → List (Nat × Blk) := fun (y0, y1) => []
noncomputable def f6_1_k (x1 : List (List Int)) : ((List Int) × Int) → List (Nat × Blk) := fun (y0, y1) => []
noncomputable def f6_1_A (x1 : List (List Int)) : List G := [(.r (.at (.lst (.list (.int .i64)) x1 false)))]
noncomputable def f6_1_K (x1 : List (List Int)) : List (Nat × Blk) := []
def f6_1_C (x1 : List (List Int)) (r : (List Int) × Int) : Prop := CallOK cx 6 (f6_1_A x1) (f6_1_K x1) [] (f6_1_v r) (f6_1_k x1 r)

def f7_M : List Nat := [19, 20]
noncomputable def f7_p4_H (x2 : List Int) (x5 : Mm) (x6 : List (List Int)) (x7 x9 : Int) (x10 x11 : Int) : GS := ⟨[(6, (.r (.at (.ptr 20 0 0)))), (8, (.r (.at (.int .u8 x9)))), (9, (GI x10)), (31, (GL x2)), (32, (.r (.at (.int .i64 ((List.length x2 : Nat) : Int))))), (33, (GI x11))], [(19, (.mpb (.pair (.int .i64) (.pair (.int .i64) (.pair (.int .u8) .unit))) (.pair (.int .i64) (.pair (.int .i64) .unit)) x5)), (20, (.var [.cell (.lst (.list (.int .i64)) x6 false), .cell (.int .i64 x7), .cell (.mp 19)]))]⟩
noncomputable def f7_p4_x : f7_p4_R → GExit := fun
  | .c0 y0 => .ret
  | .c1 y0 => (.exit 1)
noncomputable def f7_p4_s (x2 : List Int) (x5 : Mm) (x6 : List (List Int)) (x7 : Int) : f7_p4_R → GS := fun
  | .c0 y0 => ⟨[(4, (.r (.at (.int .i64 0)))), (5, (GI y0))], []⟩
  | .c1 y0 => ⟨[(9, (GI y0))], []⟩
def f7_p4_P (x2 : List Int) (x5 : Mm) (x6 : List (List Int)) (x7 x9 : Int) (x10 x11 : Int) (r : f7_p4_R) : Prop := Lp cx f7_M 63 (part Try.f7 4) (f7_p4_H x2 x5 x6 x7 x9 x10 x11) (f7_p4_x r) (f7_p4_s x2 x5 x6 x7 r)
noncomputable def f7_v : (Int × Int) → G := fun (y0, y1) => (.tup [(.at (.int .i64 y0)), (.at (.int .i64 y1))])
noncomputable def f7_k0 : (Int × Int) → List (Nat × Blk) := fun (y0, y1) => []
noncomputable def f7_k (x1 : List (List Int)) (x2 : List Int) : (Int × Int) → List (Nat × Blk) := fun (y0, y1) => []
noncomputable def f7_A (x1 : List (List Int)) (x2 : List Int) : List G := [(.r (.at (.lst (.list (.int .i64)) x1 false))), (GL x2)]
noncomputable def f7_K (x1 : List (List Int)) (x2 : List Int) : List (Nat × Blk) := []
def f7_C (x1 : List (List Int)) (x2 : List Int) (r : Int × Int) : Prop := CallOK cx 7 (f7_A x1 x2) (f7_K x1 x2) [] (f7_v r) (f7_k x1 x2 r)

def f23_M : List Nat := []
noncomputable def f23_p1_H (x1 : List Int) (x2 x3 : Int) : GS := ⟨[(0, (GL x1)), (1, (GI x2)), (7, (.r (.at (.int .i64 ((List.length x1 : Nat) : Int))))), (8, (GI x3))], []⟩
noncomputable def f23_p1_x : f23_p1_R → GExit := fun
  | .c0 y0 => .ret
  | .c1 => (.exit 0)
noncomputable def f23_p1_s (x1 : List Int) (x2 : Int) : f23_p1_R → GS := fun
  | .c0 y0 => ⟨[(4, (GI y0))], []⟩
  | .c1 => ⟨[], []⟩
def f23_p1_P (x1 : List Int) (x2 x3 : Int) (r : f23_p1_R) : Prop := Lp cx f23_M 19 (part Try.f23 1) (f23_p1_H x1 x2 x3) (f23_p1_x r) (f23_p1_s x1 x2 r)
noncomputable def f23_v : Int → G := fun y0 => (GI y0)
noncomputable def f23_k0 : Int → List (Nat × Blk) := fun y0 => []
noncomputable def f23_k (x1 : List Int) (x2 : Int) : Int → List (Nat × Blk) := fun y0 => []
noncomputable def f23_A (x1 : List Int) (x2 : Int) : List G := [(GL x1), (GI x2)]
noncomputable def f23_K (x1 : List Int) (x2 : Int) : List (Nat × Blk) := []
def f23_C (x1 : List Int) (x2 : Int) (r : Int) : Prop := CallOK cx 23 (f23_A x1 x2) (f23_K x1 x2) [] (f23_v r) (f23_k x1 x2 r)

def f8_M : List Nat := []
noncomputable def f8_v : Bool → G := fun y0 => (GB y0)
noncomputable def f8_k0 : Bool → List (Nat × Blk) := fun y0 => []
noncomputable def f8_k (x1 : List Int) (x2 : Int) : Bool → List (Nat × Blk) := fun y0 => []
noncomputable def f8_A (x1 : List Int) (x2 : Int) : List G := [(GL x1), (GI x2)]
noncomputable def f8_K (x1 : List Int) (x2 : Int) : List (Nat × Blk) := []
def f8_C (x1 : List Int) (x2 : Int) (r : Bool) : Prop := CallOK cx 8 (f8_A x1 x2) (f8_K x1 x2) [] (f8_v r) (f8_k x1 x2 r)

def f48_M : List Nat := []
noncomputable def f48_p0_H (x1 : Int) : GS := ⟨[(0, (.r (.at (.int .u64 x1)))), (2, (.r (.at (.int .i64 0)))), (4, (.r (.at (.bool (decide (x1 ≥ 4294967296))))))], []⟩
noncomputable def f48_p0_x : (Int × Int) → GExit := fun (y0, y1) => .normal
noncomputable def f48_p0_s (x1 : Int) : (Int × Int) → GS := fun (y0, y1) => ⟨[(0, (.r (.at (.int .u64 y0)))), (2, (GI y1))], []⟩
def f48_p0_P (x1 : Int) (r : Int × Int) : Prop := Ex cx f48_M 25 (part Try.f48 0) (f48_p0_H x1) (f48_p0_x r) (f48_p0_s x1 r)
noncomputable def f48_p1_H (x2 x3 : Int) : GS := ⟨[(0, (.r (.at (.int .u64 x2)))), (2, (GI x3)), (8, (.r (.at (.bool (decide (x2 ≥ 65536))))))], []⟩
noncomputable def f48_p1_x : (Int × Int) → GExit := fun (y0, y1) => .normal
noncomputable def f48_p1_s (x2 x3 : Int) : (Int × Int) → GS := fun (y0, y1) => ⟨[(0, (.r (.at (.int .u64 y0)))), (2, (GI y1))], []⟩
def f48_p1_P (x2 x3 : Int) (r : Int × Int) : Prop := Ex cx f48_M 25 (part Try.f48 1) (f48_p1_H x2 x3) (f48_p1_x r) (f48_p1_s x2 x3 r)
noncomputable def f48_p2_H (x4 x5 : Int) : GS := ⟨[(0, (.r (.at (.int .u64 x4)))), (2, (GI x5)), (14, (.r (.at (.bool (decide (x4 ≥ 256))))))], []⟩
noncomputable def f48_p2_x : (Int × Int) → GExit := fun (y0, y1) => .normal
noncomputable def f48_p2_s (x4 x5 : Int) : (Int × Int) → GS := fun (y0, y1) => ⟨[(0, (.r (.at (.int .u64 y0)))), (2, (GI y1))], []⟩
def f48_p2_P (x4 x5 : Int) (r : Int × Int) : Prop := Ex cx f48_M 25 (part Try.f48 2) (f48_p2_H x4 x5) (f48_p2_x r) (f48_p2_s x4 x5 r)
noncomputable def f48_v : Int → G := fun y0 => (GI y0)
noncomputable def f48_k0 : Int → List (Nat × Blk) := fun y0 => []
noncomputable def f48_k (x1 : Int) : Int → List (Nat × Blk) := fun y0 => []
noncomputable def f48_A (x1 : Int) : List G := [(.r (.at (.int .u64 x1)))]
noncomputable def f48_K (x1 : Int) : List (Nat × Blk) := []
def f48_C (x1 : Int) (r : Int) : Prop := CallOK cx 48 (f48_A x1) (f48_K x1) [] (f48_v r) (f48_k x1 r)

def f25_M : List Nat := []
noncomputable def f25_v : Int → G := fun y0 => (GI y0)
noncomputable def f25_k0 : Int → List (Nat × Blk) := fun y0 => []
noncomputable def f25_k (x1 : Int) : Int → List (Nat × Blk) := fun y0 => []
noncomputable def f25_A (x1 : Int) : List G := [(.r (.at (.int .u64 x1)))]
noncomputable def f25_K (x1 : Int) : List (Nat × Blk) := []
def f25_C (x1 : Int) (r : Int) : Prop := CallOK cx 25 (f25_A x1) (f25_K x1) [] (f25_v r) (f25_k x1 r)

def f59_M : List Nat := []
noncomputable def f59_v : Bool → G := fun y0 => (GB y0)
noncomputable def f59_k0 : Bool → List (Nat × Blk) := fun y0 => []
noncomputable def f59_k (x1 : Int) : Bool → List (Nat × Blk) := fun y0 => []
noncomputable def f59_A (x1 : Int) : List G := [(GI x1)]
noncomputable def f59_K (x1 : Int) : List (Nat × Blk) := []
def f59_C (x1 : Int) (r : Bool) : Prop := CallOK cx 59 (f59_A x1) (f59_K x1) [] (f59_v r) (f59_k x1 r)

def f44_M : List Nat := []
noncomputable def f44_v : Bool → G := fun y0 => (GB y0)
noncomputable def f44_k0 : Bool → List (Nat × Blk) := fun y0 => []
noncomputable def f44_k (x1 x2 : Int) : Bool → List (Nat × Blk) := fun y0 => []
noncomputable def f44_A (x1 x2 : Int) : List G := [(GI x1), (GI x2)]
noncomputable def f44_K (x1 x2 : Int) : List (Nat × Blk) := []
def f44_C (x1 x2 : Int) (r : Bool) : Prop := CallOK cx 44 (f44_A x1 x2) (f44_K x1 x2) [] (f44_v r) (f44_k x1 x2 r)

def f38_M : List Nat := []
noncomputable def f38_p5_2_H (x3 : List Int) (x1 x2 : Int) (x38 x44 : Int) (x43 : List Int) : GS := ⟨[(0, (.r (.at (.sl 3 0 (List.length x3))))), (1, (GI x1)), (2, (GI x2)), (6, (GI x38)), (7, (GI x44))], [(3, (.gr (.int .i64) 3 x43 true))]⟩
noncomputable def f38_p5_2_x : (List Int) → GExit := fun y0 => (.exit 2)
noncomputable def f38_p5_2_s (x3 : List Int) (x1 x2 x38 : Int) : (List Int) → GS := fun y0 => ⟨[(0, (.r (.at (.sl 3 0 (List.length x3))))), (1, (GI x1)), (2, (GI x2)), (6, (GI x38))], [(3, (.gr (.int .i64) 3 y0 true))]⟩
def f38_p5_2_P (x3 : List Int) (x1 x2 : Int) (x38 x44 : Int) (x43 : List Int) (r : (List Int)) : Prop := Lp cx f38_M 49 (part Try.f38 5) (f38_p5_2_H x3 x1 x2 x38 x44 x43) (f38_p5_2_x r) (f38_p5_2_s x3 x1 x2 x38 r)
noncomputable def f38_p1_H (x3 : List Int) (x1 x2 x38 : Int) (x37 : List Int) : GS := ⟨[(0, (.r (.at (.sl 3 0 (List.length x3))))), (1, (GI x1)), (2, (GI x2)), (6, (GI x38))], [(3, (.gr (.int .i64) 3 x37 true))]⟩
noncomputable def f38_p1_x : (List Int) → GExit := fun y0 => (.exit 0)
noncomputable def f38_p1_s (x3 : List Int) (x1 x2 : Int) : (List Int) → GS := fun y0 => ⟨[], [(3, (.gr (.int .i64) 3 y0 true))]⟩
def f38_p1_P (x3 : List Int) (x1 x2 x38 : Int) (x37 : List Int) (r : (List Int)) : Prop := Lp cx f38_M 49 (part Try.f38 1) (f38_p1_H x3 x1 x2 x38 x37) (f38_p1_x r) (f38_p1_s x3 x1 x2 r)
noncomputable def f38_v : (List Int) → G := fun y0 => (.r (.at .unit0))
noncomputable def f38_k0 : (List Int) → List (Nat × Blk) := fun y0 => [(3, (.gr (.int .i64) 3 y0 true))]
noncomputable def f38_k (x1 x2 : Int) (x3 : List Int) : (List Int) → List (Nat × Blk) := fun y0 => [(3, (.gr (.int .i64) 3 y0 true))]
noncomputable def f38_A (x1 x2 : Int) (x3 : List Int) : List G := [(.r (.at (.sl 3 0 (List.length x3)))), (GI x1), (GI x2)]
noncomputable def f38_K (x1 x2 : Int) (x3 : List Int) : List (Nat × Blk) := [(3, (.gr (.int .i64) 3 x3 true))]
def f38_C (x1 x2 : Int) (x3 : List Int) (r : (List Int)) : Prop := CallOK cx 38 (f38_A x1 x2 x3) (f38_K x1 x2 x3) [] (f38_v r) (f38_k x1 x2 x3 r)

def f24_M : List Nat := []
noncomputable def f24_p5_1_H (x11 : List Int) (x12 x13 x14 : Int) (x15 x16 : Bool) : GS := ⟨[(0, (.r (.at (.sl 3 0 (List.length x11))))), (1, (GI x12)), (2, (GI x13)), (3, (GI x14)), (8, (GB x15)), (9, (GB x16)), (10, (.r (.at (.int .i64 (w64 (x13 - x12)))))), (35, (.r (.at (.bool (!x15)))))], [(3, (.gr (.int .i64) 3 x11 true))]⟩
noncomputable def f24_p5_1_x : Unit → GExit := fun _ => .normal
noncomputable def f24_p5_1_s (x11 : List Int) (x12 x13 x14 : Int) (x15 x16 : Bool) : Unit → GS := fun _ => ⟨[(0, (.r (.at (.sl 3 0 (List.length x11))))), (1, (GI x12)), (2, (GI x13)), (3, (GI x14)), (8, (GB x15)), (9, (GB x16)), (10, (.r (.at (.int .i64 (w64 (x13 - x12))))))], [(3, (.gr (.int .i64) 3 x11 true))]⟩
def f24_p5_1_P (x11 : List Int) (x12 x13 x14 : Int) (x15 x16 : Bool) (r : Unit) : Prop := Ex cx f24_M 134 (part Try.f24 5) (f24_p5_1_H x11 x12 x13 x14 x15 x16) (f24_p5_1_x r) (f24_p5_1_s x11 x12 x13 x14 x15 x16 r)
noncomputable def f24_p1_H (x12 x13 x14 : Int) (x15 x16 : Bool) (x11 : List Int) : GS := ⟨[(0, (.r (.at (.sl 3 0 (List.length x11))))), (1, (GI x12)), (2, (GI x13)), (3, (GI x14)), (8, (GB x15)), (9, (GB x16))], [(3, (.gr (.int .i64) 3 x11 true))]⟩
noncomputable def f24_p1_x : (List Int) → GExit := fun y0 => .ret
noncomputable def f24_p1_s : (List Int) → GS := fun y0 => ⟨[], [(3, (.gr (.int .i64) 3 y0 true))]⟩
def f24_p1_P (x12 x13 x14 : Int) (x15 x16 : Bool) (x11 : List Int) (r : (List Int)) : Prop := Lp cx f24_M 134 (part Try.f24 1) (f24_p1_H x12 x13 x14 x15 x16 x11) (f24_p1_x r) (f24_p1_s r)
noncomputable def f24_v : (List Int) → G := fun y0 => (.r (.at .unit0))
noncomputable def f24_k0 : (List Int) → List (Nat × Blk) := fun y0 => [(3, (.gr (.int .i64) 3 y0 true))]
noncomputable def f24_k (x1 x2 x3 : Int) (x4 : List Int) : (List Int) → List (Nat × Blk) := fun y0 => [(3, (.gr (.int .i64) 3 y0 true))]
noncomputable def f24_A (x1 x2 x3 : Int) (x4 : List Int) : List G := [(.r (.at (.sl 3 0 (List.length x4)))), (GI x1), (GI x2), (GI x3)]
noncomputable def f24_K (x1 x2 x3 : Int) (x4 : List Int) : List (Nat × Blk) := [(3, (.gr (.int .i64) 3 x4 true))]
def f24_C (x1 x2 x3 : Int) (x4 : List Int) (r : (List Int)) : Prop := CallOK cx 24 (f24_A x1 x2 x3 x4) (f24_K x1 x2 x3 x4) [] (f24_v r) (f24_k x1 x2 x3 x4 r)

def f9_M : List Nat := []
noncomputable def f9_v : (List Int) → G := fun y0 => (.r (.at .unit0))
noncomputable def f9_k0 : (List Int) → List (Nat × Blk) := fun y0 => [(3, (.gr (.int .i64) 3 y0 true))]
noncomputable def f9_k (x1 : List Int) : (List Int) → List (Nat × Blk) := fun y0 => [(3, (.gr (.int .i64) 3 y0 true))]
noncomputable def f9_A (x1 : List Int) : List G := [(.r (.at (.sl 3 0 (List.length x1))))]
noncomputable def f9_K (x1 : List Int) : List (Nat × Blk) := [(3, (.gr (.int .i64) 3 x1 true))]
def f9_C (x1 : List Int) (r : (List Int)) : Prop := CallOK cx 9 (f9_A x1) (f9_K x1) [] (f9_v r) (f9_k x1 r)

def f38_1_M : List Nat := []
noncomputable def f38_1_p5_2_H (x3 : List Int) (x1 x2 : Int) (x38 x44 : Int) (x43 : List Int) : GS := ⟨[(0, (.r (.at (.sl 4 0 (List.length x3))))), (1, (GI x1)), (2, (GI x2)), (6, (GI x38)), (7, (GI x44))], [(4, (.gr (.int .i64) 3 x43 true))]⟩
noncomputable def f38_1_p5_2_x : (List Int) → GExit := fun y0 => (.exit 2)
noncomputable def f38_1_p5_2_s (x3 : List Int) (x1 x2 x38 : Int) : (List Int) → GS := fun y0 => ⟨[(0, (.r (.at (.sl 4 0 (List.length x3))))), (1, (GI x1)), (2, (GI x2)), (6, (GI x38))], [(4, (.gr (.int .i64) 3 y0 true))]⟩
def f38_1_p5_2_P (x3 : List Int) (x1 x2 : Int) (x38 x44 : Int) (x43 : List Int) (r : (List Int)) : Prop := Lp cx f38_1_M 49 (part Try.f38 5) (f38_1_p5_2_H x3 x1 x2 x38 x44 x43) (f38_1_p5_2_x r) (f38_1_p5_2_s x3 x1 x2 x38 r)
noncomputable def f38_1_p1_H (x3 : List Int) (x1 x2 x38 : Int) (x37 : List Int) : GS := ⟨[(0, (.r (.at (.sl 4 0 (List.length x3))))), (1, (GI x1)), (2, (GI x2)), (6, (GI x38))], [(4, (.gr (.int .i64) 3 x37 true))]⟩
noncomputable def f38_1_p1_x : (List Int) → GExit := fun y0 => (.exit 0)
noncomputable def f38_1_p1_s (x3 : List Int) (x1 x2 : Int) : (List Int) → GS := fun y0 => ⟨[], [(4, (.gr (.int .i64) 3 y0 true))]⟩
def f38_1_p1_P (x3 : List Int) (x1 x2 x38 : Int) (x37 : List Int) (r : (List Int)) : Prop := Lp cx f38_1_M 49 (part Try.f38 1) (f38_1_p1_H x3 x1 x2 x38 x37) (f38_1_p1_x r) (f38_1_p1_s x3 x1 x2 r)
noncomputable def f38_1_v : (List Int) → G := fun y0 => (.r (.at .unit0))
noncomputable def f38_1_k0 : (List Int) → List (Nat × Blk) := fun y0 => [(4, (.gr (.int .i64) 3 y0 true))]
noncomputable def f38_1_k (x1 x2 : Int) (x3 : List Int) : (List Int) → List (Nat × Blk) := fun y0 => [(4, (.gr (.int .i64) 3 y0 true))]
noncomputable def f38_1_A (x1 x2 : Int) (x3 : List Int) : List G := [(.r (.at (.sl 4 0 (List.length x3)))), (GI x1), (GI x2)]
noncomputable def f38_1_K (x1 x2 : Int) (x3 : List Int) : List (Nat × Blk) := [(4, (.gr (.int .i64) 3 x3 true))]
def f38_1_C (x1 x2 : Int) (x3 : List Int) (r : (List Int)) : Prop := CallOK cx 38 (f38_1_A x1 x2 x3) (f38_1_K x1 x2 x3) [] (f38_1_v r) (f38_1_k x1 x2 x3 r)

def f24_1_M : List Nat := []
noncomputable def f24_1_p5_1_H (x11 : List Int) (x12 x13 x14 : Int) (x15 x16 : Bool) : GS := ⟨[(0, (.r (.at (.sl 4 0 (List.length x11))))), (1, (GI x12)), (2, (GI x13)), (3, (GI x14)), (8, (GB x15)), (9, (GB x16)), (10, (.r (.at (.int .i64 (w64 (x13 - x12)))))), (35, (.r (.at (.bool (!x15)))))], [(4, (.gr (.int .i64) 3 x11 true))]⟩
noncomputable def f24_1_p5_1_x : Unit → GExit := fun _ => .normal
noncomputable def f24_1_p5_1_s (x11 : List Int) (x12 x13 x14 : Int) (x15 x16 : Bool) : Unit → GS := fun _ => ⟨[(0, (.r (.at (.sl 4 0 (List.length x11))))), (1, (GI x12)), (2, (GI x13)), (3, (GI x14)), (8, (GB x15)), (9, (GB x16)), (10, (.r (.at (.int .i64 (w64 (x13 - x12))))))], [(4, (.gr (.int .i64) 3 x11 true))]⟩
def f24_1_p5_1_P (x11 : List Int) (x12 x13 x14 : Int) (x15 x16 : Bool) (r : Unit) : Prop := Ex cx f24_1_M 134 (part Try.f24 5) (f24_1_p5_1_H x11 x12 x13 x14 x15 x16) (f24_1_p5_1_x r) (f24_1_p5_1_s x11 x12 x13 x14 x15 x16 r)
noncomputable def f24_1_p1_H (x12 x13 x14 : Int) (x15 x16 : Bool) (x11 : List Int) : GS := ⟨[(0, (.r (.at (.sl 4 0 (List.length x11))))), (1, (GI x12)), (2, (GI x13)), (3, (GI x14)), (8, (GB x15)), (9, (GB x16))], [(4, (.gr (.int .i64) 3 x11 true))]⟩
noncomputable def f24_1_p1_x : (List Int) → GExit := fun y0 => .ret
noncomputable def f24_1_p1_s : (List Int) → GS := fun y0 => ⟨[], [(4, (.gr (.int .i64) 3 y0 true))]⟩
def f24_1_p1_P (x12 x13 x14 : Int) (x15 x16 : Bool) (x11 : List Int) (r : (List Int)) : Prop := Lp cx f24_1_M 134 (part Try.f24 1) (f24_1_p1_H x12 x13 x14 x15 x16 x11) (f24_1_p1_x r) (f24_1_p1_s r)
noncomputable def f24_1_v : (List Int) → G := fun y0 => (.r (.at .unit0))
noncomputable def f24_1_k0 : (List Int) → List (Nat × Blk) := fun y0 => [(4, (.gr (.int .i64) 3 y0 true))]
noncomputable def f24_1_k (x1 x2 x3 : Int) (x4 : List Int) : (List Int) → List (Nat × Blk) := fun y0 => [(4, (.gr (.int .i64) 3 y0 true))]
noncomputable def f24_1_A (x1 x2 x3 : Int) (x4 : List Int) : List G := [(.r (.at (.sl 4 0 (List.length x4)))), (GI x1), (GI x2), (GI x3)]
noncomputable def f24_1_K (x1 x2 x3 : Int) (x4 : List Int) : List (Nat × Blk) := [(4, (.gr (.int .i64) 3 x4 true))]
def f24_1_C (x1 x2 x3 : Int) (x4 : List Int) (r : (List Int)) : Prop := CallOK cx 24 (f24_1_A x1 x2 x3 x4) (f24_1_K x1 x2 x3 x4) [] (f24_1_v r) (f24_1_k x1 x2 x3 x4 r)

def f9_1_M : List Nat := []
noncomputable def f9_1_v : (List Int) → G := fun y0 => (.r (.at .unit0))
noncomputable def f9_1_k0 : (List Int) → List (Nat × Blk) := fun y0 => [(4, (.gr (.int .i64) 3 y0 true))]
noncomputable def f9_1_k (x1 : List Int) : (List Int) → List (Nat × Blk) := fun y0 => [(4, (.gr (.int .i64) 3 y0 true))]
noncomputable def f9_1_A (x1 : List Int) : List G := [(.r (.at (.sl 4 0 (List.length x1))))]
noncomputable def f9_1_K (x1 : List Int) : List (Nat × Blk) := [(4, (.gr (.int .i64) 3 x1 true))]
def f9_1_C (x1 : List Int) (r : (List Int)) : Prop := CallOK cx 9 (f9_1_A x1) (f9_1_K x1) [] (f9_1_v r) (f9_1_k x1 r)

def f27_M : List Nat := []
noncomputable def f27_v : (Bool × (List Int)) → G := fun (y0, y1) => (GB y0)
noncomputable def f27_k0 : (Bool × (List Int)) → List (Nat × Blk) := fun (y0, y1) => [(28, (.gr (.int .i64) 3 y1 true))]
noncomputable def f27_k (x1 x2 : Nat) (x3 : Int) (x4 : List Int) : (Bool × (List Int)) → List (Nat × Blk) := fun (y0, y1) => [(28, (.gr (.int .i64) 3 y1 true))]
noncomputable def f27_A (x1 x2 : Nat) (x3 : Int) (x4 : List Int) : List G := [(.r (.at (.ptg 28 x1))), (.r (.at (.ptg 28 x2))), (GI x3)]
noncomputable def f27_K (x1 x2 : Nat) (x3 : Int) (x4 : List Int) : List (Nat × Blk) := [(28, (.gr (.int .i64) 3 x4 true))]
def f27_C (x1 x2 : Nat) (x3 : Int) (x4 : List Int) (r : Bool × (List Int)) : Prop := CallOK cx 27 (f27_A x1 x2 x3 x4) (f27_K x1 x2 x3 x4) [] (f27_v r) (f27_k x1 x2 x3 x4 r)

def f27_1_M : List Nat := []
noncomputable def f27_1_v : (Bool × (List Int)) → G := fun (y0, y1) => (GB y0)
noncomputable def f27_1_k0 : (Bool × (List Int)) → List (Nat × Blk) := fun (y0, y1) => [(28, (.gr (.int .i64) 3 y1 true))]
noncomputable def f27_1_k (x1 : Nat) (x2 : Int) (x3 : List Int) (x4 : Int) : (Bool × (List Int)) → List (Nat × Blk) := fun (y0, y1) => [(28, (.gr (.int .i64) 3 y1 true)), (29, (.var [.cell (.int .i64 x4)]))]
noncomputable def f27_1_A (x1 : Nat) (x2 : Int) (x3 : List Int) (x4 : Int) : List G := [(.r (.at (.ptr 29 0 0))), (.r (.at (.ptg 28 x1))), (GI x2)]
noncomputable def f27_1_K (x1 : Nat) (x2 : Int) (x3 : List Int) (x4 : Int) : List (Nat × Blk) := [(28, (.gr (.int .i64) 3 x3 true)), (29, (.var [.cell (.int .i64 x4)]))]
def f27_1_C (x1 : Nat) (x2 : Int) (x3 : List Int) (x4 : Int) (r : Bool × (List Int)) : Prop := CallOK cx 27 (f27_1_A x1 x2 x3 x4) (f27_1_K x1 x2 x3 x4) [] (f27_1_v r) (f27_1_k x1 x2 x3 x4 r)

def f26_M : List Nat := [29]
noncomputable def f26_p8_3_H (x1 x2 : Nat) (x7 : List Int) (x101 : Bool) (x102 x103 : Int) (x8 : Mm) (x4 : List (List Int)) (x5 : Int) (x100 : List Int) : GS := ⟨[(0, (.r (.at (.ptr 20 0 0)))), (1, (.r (.at (.sl 28 x1 x2)))), (2, (.r (.at (.fn 27)))), (7, (.r (.at (.ptr 29 0 0)))), (8, (GL x7)), (9, (GB x101)), (10, (GI x102)), (11, (GI x103)), (12, (.r (.at (.ptr 29 0 0)))), (17, (GL x7)), (18, (.r (.at (.int .i64 ((List.length x7 : Nat) : Int))))), (19, (GI x102)), (25, (.r (.at (.bool (decide (x103 ≥ 0))))))], [(19, (.mpb (.pair (.int .i64) (.pair (.int .i64) (.pair (.int .u8) .unit))) (.pair (.int .i64) (.pair (.int .i64) .unit)) x8)), (20, (.var [.cell (.lst (.list (.int .i64)) x4 false), .cell (.int .i64 x5), .cell (.mp 19)])), (28, (.gr (.int .i64) 3 x100 true)), (29, (.var [.cell (.int .i64 0)]))]⟩
noncomputable def f26_p8_3_x : f26_p8_3_R → GExit := fun
  | .c0 => .normal
  | .c1 => .normal
noncomputable def f26_p8_3_s (x1 x2 : Nat) (x7 : List Int) (x101 : Bool) (x102 x103 : Int) (x8 : Mm) (x4 : List (List Int)) (x5 : Int) (x100 : List Int) : f26_p8_3_R → GS := fun
  | .c0 => ⟨[(0, (.r (.at (.ptr 20 0 0)))), (1, (.r (.at (.sl 28 x1 x2)))), (2, (.r (.at (.fn 27)))), (7, (.r (.at (.ptr 29 0 0)))), (8, (GL x7)), (9, (GB x101)), (10, (GI x102)), (11, (GI x103)), (12, (.r (.at (.ptg 28 (x1 + (Int.toNat x103)))))), (17, (GL x7)), (18, (.r (.at (.int .i64 ((List.length x7 : Nat) : Int))))), (19, (GI x102))], [(19, (.mpb (.pair (.int .i64) (.pair (.int .i64) (.pair (.int .u8) .unit))) (.pair (.int .i64) (.pair (.int .i64) .unit)) x8)), (20, (.var [.cell (.lst (.list (.int .i64)) x4 false), .cell (.int .i64 x5), .cell (.mp 19)])), (28, (.gr (.int .i64) 3 x100 true)), (29, (.var [.cell (.int .i64 0)]))]⟩
  | .c1 => ⟨[(0, (.r (.at (.ptr 20 0 0)))), (1, (.r (.at (.sl 28 x1 x2)))), (2, (.r (.at (.fn 27)))), (7, (.r (.at (.ptr 29 0 0)))), (8, (GL x7)), (9, (GB x101)), (10, (GI x102)), (11, (GI x103)), (12, (.r (.at (.ptr 29 0 0)))), (17, (GL x7)), (18, (.r (.at (.int .i64 ((List.length x7 : Nat) : Int))))), (19, (GI x102))], [(19, (.mpb (.pair (.int .i64) (.pair (.int .i64) (.pair (.int .u8) .unit))) (.pair (.int .i64) (.pair (.int .i64) .unit)) x8)), (20, (.var [.cell (.lst (.list (.int .i64)) x4 false), .cell (.int .i64 x5), .cell (.mp 19)])), (28, (.gr (.int .i64) 3 x100 true)), (29, (.var [.cell (.int .i64 0)]))]⟩
def f26_p8_3_P (x1 x2 : Nat) (x7 : List Int) (x101 : Bool) (x102 x103 : Int) (x8 : Mm) (x4 : List (List Int)) (x5 : Int) (x100 : List Int) (r : f26_p8_3_R) : Prop := Ex cx f26_M 63 (part Try.f26 8) (f26_p8_3_H x1 x2 x7 x101 x102 x103 x8 x4 x5 x100) (f26_p8_3_x r) (f26_p8_3_s x1 x2 x7 x101 x102 x103 x8 x4 x5 x100 r)
noncomputable def f26_p13_9_H (x1 x2 : Nat) (x7 : List Int) (x113 : Bool) (x102 x103 x114 : Int) (x118 : Bool) (x8 : Mm) (x4 : List (List Int)) (x5 : Int) (x119 : List Int) : GS := ⟨[(0, (.r (.at (.ptr 20 0 0)))), (1, (.r (.at (.sl 28 x1 x2)))), (2, (.r (.at (.fn 27)))), (7, (.r (.at (.ptr 29 0 0)))), (8, (GL x7)), (9, (GB x113)), (10, (GI x102)), (11, (GI x103)), (12, (.r (.at (.ptg 28 (x1 + (Int.toNat x103)))))), (17, (GL x7)), (18, (.r (.at (.int .i64 ((List.length x7 : Nat) : Int))))), (19, (GI x102)), (30, (.r (.at (.int .i64 ((x2 : Nat) : Int))))), (31, (GI x114)), (59, (GB x118))], [(19, (.mpb (.pair (.int .i64) (.pair (.int .i64) (.pair (.int .u8) .unit))) (.pair (.int .i64) (.pair (.int .i64) .unit)) x8)), (20, (.var [.cell (.lst (.list (.int .i64)) x4 false), .cell (.int .i64 x5), .cell (.mp 19)])), (28, (.gr (.int .i64) 3 x119 true)), (29, (.var [.cell (.int .i64 0)]))]⟩
noncomputable def f26_p13_9_x : Bool → GExit := fun y0 => .normal
noncomputable def f26_p13_9_s (x1 x2 : Nat) (x7 : List Int) (x113 : Bool) (x102 x103 x114 : Int) (x118 : Bool) (x8 : Mm) (x4 : List (List Int)) (x5 : Int) (x119 : List Int) : Bool → GS := fun y0 => ⟨[(0, (.r (.at (.ptr 20 0 0)))), (1, (.r (.at (.sl 28 x1 x2)))), (2, (.r (.at (.fn 27)))), (7, (.r (.at (.ptr 29 0 0)))), (8, (GL x7)), (9, (GB y0)), (10, (GI x102)), (11, (GI x103)), (12, (.r (.at (.ptg 28 (x1 + (Int.toNat x103)))))), (17, (GL x7)), (18, (.r (.at (.int .i64 ((List.length x7 : Nat) : Int))))), (19, (GI x102)), (30, (.r (.at (.int .i64 ((x2 : Nat) : Int))))), (31, (GI x114))], [(19, (.mpb (.pair (.int .i64) (.pair (.int .i64) (.pair (.int .u8) .unit))) (.pair (.int .i64) (.pair (.int .i64) .unit)) x8)), (20, (.var [.cell (.lst (.list (.int .i64)) x4 false), .cell (.int .i64 x5), .cell (.mp 19)])), (28, (.gr (.int .i64) 3 x119 true)), (29, (.var [.cell (.int .i64 0)]))]⟩
def f26_p13_9_P (x1 x2 : Nat) (x7 : List Int) (x113 : Bool) (x102 x103 x114 : Int) (x118 : Bool) (x8 : Mm) (x4 : List (List Int)) (x5 : Int) (x119 : List Int) (r : Bool) : Prop := Ex cx f26_M 63 (part Try.f26 13) (f26_p13_9_H x1 x2 x7 x113 x102 x103 x114 x118 x8 x4 x5 x119) (f26_p13_9_x r) (f26_p13_9_s x1 x2 x7 x113 x102 x103 x114 x118 x8 x4 x5 x119 r)
noncomputable def f26_p10_4_H (x1 x2 : Nat) (x7 : List Int) (x102 x103 : Int) (x8 : Mm) (x4 : List (List Int)) (x5 : Int) (x113 : Bool) (x114 : Int) (x112 : List Int) : GS := ⟨[(0, (.r (.at (.ptr 20 0 0)))), (1, (.r (.at (.sl 28 x1 x2)))), (2, (.r (.at (.fn 27)))), (7, (.r (.at (.ptr 29 0 0)))), (8, (GL x7)), (9, (GB x113)), (10, (GI x102)), (11, (GI x103)), (12, (.r (.at (.ptg 28 (x1 + (Int.toNat x103)))))), (17, (GL x7)), (18, (.r (.at (.int .i64 ((List.length x7 : Nat) : Int))))), (19, (GI x102)), (30, (.r (.at (.int .i64 ((x2 : Nat) : Int))))), (31, (GI x114))], [(19, (.mpb (.pair (.int .i64) (.pair (.int .i64) (.pair (.int .u8) .unit))) (.pair (.int .i64) (.pair (.int .i64) .unit)) x8)), (20, (.var [.cell (.lst (.list (.int .i64)) x4 false), .cell (.int .i64 x5), .cell (.mp 19)])), (28, (.gr (.int .i64) 3 x112 true)), (29, (.var [.cell (.int .i64 0)]))]⟩
noncomputable def f26_p10_4_x : (Bool × (List Int)) → GExit := fun (y0, y1) => (.exit 4)
noncomputable def f26_p10_4_s (x1 x2 : Nat) (x7 : List Int) (x102 x103 : Int) (x8 : Mm) (x4 : List (List Int)) (x5 : Int) : (Bool × (List Int)) → GS := fun (y0, y1) => ⟨[(0, (.r (.at (.ptr 20 0 0)))), (1, (.r (.at (.sl 28 x1 x2)))), (2, (.r (.at (.fn 27)))), (7, (.r (.at (.ptr 29 0 0)))), (8, (GL x7)), (9, (GB y0)), (17, (GL x7)), (18, (.r (.at (.int .i64 ((List.length x7 : Nat) : Int))))), (19, (GI x102))], [(19, (.mpb (.pair (.int .i64) (.pair (.int .i64) (.pair (.int .u8) .unit))) (.pair (.int .i64) (.pair (.int .i64) .unit)) x8)), (20, (.var [.cell (.lst (.list (.int .i64)) x4 false), .cell (.int .i64 x5), .cell (.mp 19)])), (28, (.gr (.int .i64) 3 y1 true)), (29, (.var [.cell (.int .i64 0)]))]⟩
def f26_p10_4_P (x1 x2 : Nat) (x7 : List Int) (x102 x103 : Int) (x8 : Mm) (x4 : List (List Int)) (x5 : Int) (x113 : Bool) (x114 : Int) (x112 : List Int) (r : Bool × (List Int)) : Prop := Lp cx f26_M 63 (part Try.f26 10) (f26_p10_4_H x1 x2 x7 x102 x103 x8 x4 x5 x113 x114 x112) (f26_p10_4_x r) (f26_p10_4_s x1 x2 x7 x102 x103 x8 x4 x5 r)
noncomputable def f26_p13_11_H (x1 x2 : Nat) (x7 : List Int) (x132 : Bool) (x102 x103 x133 : Int) (x137 : Bool) (x8 : Mm) (x4 : List (List Int)) (x5 : Int) (x138 : List Int) : GS := ⟨[(0, (.r (.at (.ptr 20 0 0)))), (1, (.r (.at (.sl 28 x1 x2)))), (2, (.r (.at (.fn 27)))), (7, (.r (.at (.ptr 29 0 0)))), (8, (GL x7)), (9, (GB x132)), (10, (GI x102)), (11, (GI x103)), (12, (.r (.at (.ptr 29 0 0)))), (17, (GL x7)), (18, (.r (.at (.int .i64 ((List.length x7 : Nat) : Int))))), (19, (GI x102)), (30, (.r (.at (.int .i64 ((x2 : Nat) : Int))))), (31, (GI x133)), (59, (GB x137))], [(19, (.mpb (.pair (.int .i64) (.pair (.int .i64) (.pair (.int .u8) .unit))) (.pair (.int .i64) (.pair (.int .i64) .unit)) x8)), (20, (.var [.cell (.lst (.list (.int .i64)) x4 false), .cell (.int .i64 x5), .cell (.mp 19)])), (28, (.gr (.int .i64) 3 x138 true)), (29, (.var [.cell (.int .i64 0)]))]⟩
noncomputable def f26_p13_11_x : Bool → GExit := fun y0 => .normal
noncomputable def f26_p13_11_s (x1 x2 : Nat) (x7 : List Int) (x132 : Bool) (x102 x103 x133 : Int) (x137 : Bool) (x8 : Mm) (x4 : List (List Int)) (x5 : Int) (x138 : List Int) : Bool → GS := fun y0 => ⟨[(0, (.r (.at (.ptr 20 0 0)))), (1, (.r (.at (.sl 28 x1 x2)))), (2, (.r (.at (.fn 27)))), (7, (.r (.at (.ptr 29 0 0)))), (8, (GL x7)), (9, (GB y0)), (10, (GI x102)), (11, (GI x103)), (12, (.r (.at (.ptr 29 0 0)))), (17, (GL x7)), (18, (.r (.at (.int .i64 ((List.length x7 : Nat) : Int))))), (19, (GI x102)), (30, (.r (.at (.int .i64 ((x2 : Nat) : Int))))), (31, (GI x133))], [(19, (.mpb (.pair (.int .i64) (.pair (.int .i64) (.pair (.int .u8) .unit))) (.pair (.int .i64) (.pair (.int .i64) .unit)) x8)), (20, (.var [.cell (.lst (.list (.int .i64)) x4 false), .cell (.int .i64 x5), .cell (.mp 19)])), (28, (.gr (.int .i64) 3 x138 true)), (29, (.var [.cell (.int .i64 0)]))]⟩
def f26_p13_11_P (x1 x2 : Nat) (x7 : List Int) (x132 : Bool) (x102 x103 x133 : Int) (x137 : Bool) (x8 : Mm) (x4 : List (List Int)) (x5 : Int) (x138 : List Int) (r : Bool) : Prop := Ex cx f26_M 63 (part Try.f26 13) (f26_p13_11_H x1 x2 x7 x132 x102 x103 x133 x137 x8 x4 x5 x138) (f26_p13_11_x r) (f26_p13_11_s x1 x2 x7 x132 x102 x103 x133 x137 x8 x4 x5 x138 r)
noncomputable def f26_p10_5_H (x1 x2 : Nat) (x7 : List Int) (x102 x103 : Int) (x8 : Mm) (x4 : List (List Int)) (x5 : Int) (x132 : Bool) (x133 : Int) (x131 : List Int) : GS := ⟨[(0, (.r (.at (.ptr 20 0 0)))), (1, (.r (.at (.sl 28 x1 x2)))), (2, (.r (.at (.fn 27)))), (7, (.r (.at (.ptr 29 0 0)))), (8, (GL x7)), (9, (GB x132)), (10, (GI x102)), (11, (GI x103)), (12, (.r (.at (.ptr 29 0 0)))), (17, (GL x7)), (18, (.r (.at (.int .i64 ((List.length x7 : Nat) : Int))))), (19, (GI x102)), (30, (.r (.at (.int .i64 ((x2 : Nat) : Int))))), (31, (GI x133))], [(19, (.mpb (.pair (.int .i64) (.pair (.int .i64) (.pair (.int .u8) .unit))) (.pair (.int .i64) (.pair (.int .i64) .unit)) x8)), (20, (.var [.cell (.lst (.list (.int .i64)) x4 false), .cell (.int .i64 x5), .cell (.mp 19)])), (28, (.gr (.int .i64) 3 x131 true)), (29, (.var [.cell (.int .i64 0)]))]⟩
noncomputable def f26_p10_5_x : (Bool × (List Int)) → GExit := fun (y0, y1) => (.exit 4)
noncomputable def f26_p10_5_s (x1 x2 : Nat) (x7 : List Int) (x102 x103 : Int) (x8 : Mm) (x4 : List (List Int)) (x5 : Int) : (Bool × (List Int)) → GS := fun (y0, y1) => ⟨[(0, (.r (.at (.ptr 20 0 0)))), (1, (.r (.at (.sl 28 x1 x2)))), (2, (.r (.at (.fn 27)))), (7, (.r (.at (.ptr 29 0 0)))), (8, (GL x7)), (9, (GB y0)), (17, (GL x7)), (18, (.r (.at (.int .i64 ((List.length x7 : Nat) : Int))))), (19, (GI x102))], [(19, (.mpb (.pair (.int .i64) (.pair (.int .i64) (.pair (.int .u8) .unit))) (.pair (.int .i64) (.pair (.int .i64) .unit)) x8)), (20, (.var [.cell (.lst (.list (.int .i64)) x4 false), .cell (.int .i64 x5), .cell (.mp 19)])), (28, (.gr (.int .i64) 3 y1 true)), (29, (.var [.cell (.int .i64 0)]))]⟩
def f26_p10_5_P (x1 x2 : Nat) (x7 : List Int) (x102 x103 : Int) (x8 : Mm) (x4 : List (List Int)) (x5 : Int) (x132 : Bool) (x133 : Int) (x131 : List Int) (r : Bool × (List Int)) : Prop := Lp cx f26_M 63 (part Try.f26 10) (f26_p10_5_H x1 x2 x7 x102 x103 x8 x4 x5 x132 x133 x131) (f26_p10_5_x r) (f26_p10_5_s x1 x2 x7 x102 x103 x8 x4 x5 r)
noncomputable def f26_p5_1_H (x1 x2 : Nat) (x7 : List Int) (x8 : Mm) (x4 : List (List Int)) (x5 : Int) (x101 : Bool) (x102 : Int) (x100 : List Int) : GS := ⟨[(0, (.r (.at (.ptr 20 0 0)))), (1, (.r (.at (.sl 28 x1 x2)))), (2, (.r (.at (.fn 27)))), (7, (.r (.at (.ptr 29 0 0)))), (8, (GL x7)), (9, (GB x101)), (17, (GL x7)), (18, (.r (.at (.int .i64 ((List.length x7 : Nat) : Int))))), (19, (GI x102))], [(19, (.mpb (.pair (.int .i64) (.pair (.int .i64) (.pair (.int .u8) .unit))) (.pair (.int .i64) (.pair (.int .i64) .unit)) x8)), (20, (.var [.cell (.lst (.list (.int .i64)) x4 false), .cell (.int .i64 x5), .cell (.mp 19)])), (28, (.gr (.int .i64) 3 x100 true)), (29, (.var [.cell (.int .i64 0)]))]⟩
noncomputable def f26_p5_1_x : (Bool × (List Int)) → GExit := fun (y0, y1) => (.exit 2)
noncomputable def f26_p5_1_s (x1 x2 : Nat) (x7 : List Int) (x8 : Mm) (x4 : List (List Int)) (x5 : Int) : (Bool × (List Int)) → GS := fun (y0, y1) => ⟨[(0, (.r (.at (.ptr 20 0 0)))), (1, (.r (.at (.sl 28 x1 x2)))), (2, (.r (.at (.fn 27)))), (7, (.r (.at (.ptr 29 0 0)))), (8, (GL x7)), (9, (GB y0))], [(19, (.mpb (.pair (.int .i64) (.pair (.int .i64) (.pair (.int .u8) .unit))) (.pair (.int .i64) (.pair (.int .i64) .unit)) x8)), (20, (.var [.cell (.lst (.list (.int .i64)) x4 false), .cell (.int .i64 x5), .cell (.mp 19)])), (28, (.gr (.int .i64) 3 y1 true)), (29, (.var [.cell (.int .i64 0)]))]⟩
def f26_p5_1_P (x1 x2 : Nat) (x7 : List Int) (x8 : Mm) (x4 : List (List Int)) (x5 : Int) (x101 : Bool) (x102 : Int) (x100 : List Int) (r : Bool × (List Int)) : Prop := Lp cx f26_M 63 (part Try.f26 5) (f26_p5_1_H x1 x2 x7 x8 x4 x5 x101 x102 x100) (f26_p5_1_x r) (f26_p5_1_s x1 x2 x7 x8 x4 x5 r)
noncomputable def f26_p1_18_H (x1 x2 : Nat) (x7 : List Int) (x8 : Mm) (x4 : List (List Int)) (x5 : Int) (x77 : Bool) (x76 : List Int) : GS := ⟨[(0, (.r (.at (.ptr 20 0 0)))), (1, (.r (.at (.sl 28 x1 x2)))), (2, (.r (.at (.fn 27)))), (7, (.r (.at (.ptr 29 0 0)))), (8, (GL x7)), (9, (GB x77))], [(19, (.mpb (.pair (.int .i64) (.pair (.int .i64) (.pair (.int .u8) .unit))) (.pair (.int .i64) (.pair (.int .i64) .unit)) x8)), (20, (.var [.cell (.lst (.list (.int .i64)) x4 false), .cell (.int .i64 x5), .cell (.mp 19)])), (28, (.gr (.int .i64) 3 x76 true)), (29, (.var [.cell (.int .i64 0)]))]⟩
noncomputable def f26_p1_18_x : (List Int) → GExit := fun y0 => (.exit 0)
noncomputable def f26_p1_18_s (x1 x2 : Nat) (x7 : List Int) (x8 : Mm) (x4 : List (List Int)) (x5 : Int) : (List Int) → GS := fun y0 => ⟨[(1, (.r (.at (.sl 28 x1 x2))))], [(19, (.mpb (.pair (.int .i64) (.pair (.int .i64) (.pair (.int .u8) .unit))) (.pair (.int .i64) (.pair (.int .i64) .unit)) x8)), (20, (.var [.cell (.lst (.list (.int .i64)) x4 false), .cell (.int .i64 x5), .cell (.mp 19)])), (28, (.gr (.int .i64) 3 y0 true))]⟩
def f26_p1_18_P (x1 x2 : Nat) (x7 : List Int) (x8 : Mm) (x4 : List (List Int)) (x5 : Int) (x77 : Bool) (x76 : List Int) (r : (List Int)) : Prop := Lp cx f26_M 63 (part Try.f26 1) (f26_p1_18_H x1 x2 x7 x8 x4 x5 x77 x76) (f26_p1_18_x r) (f26_p1_18_s x1 x2 x7 x8 x4 x5 r)
noncomputable def f26_v : (Nat × Nat × Mm × (List Int)) → G := fun (y0, y1, y2, y3) => (.r (.at (.sl 28 y0 y1)))
noncomputable def f26_k0 : (Nat × Nat × Mm × (List Int)) → List (Nat × Blk) := fun (y0, y1, y2, y3) => [(19, (.mpb (.pair (.int .i64) (.pair (.int .i64) (.pair (.int .u8) .unit))) (.pair (.int .i64) (.pair (.int .i64) .unit)) y2)), (28, (.gr (.int .i64) 3 y3 true))]
noncomputable def f26_k (x1 x2 : Nat) (x3 : Mm) (x4 : List (List Int)) (x5 : Int) (x6 : List Int) : (Nat × Nat × Mm × (List Int)) → List (Nat × Blk) := fun (y0, y1, y2, y3) => [(19, (.mpb (.pair (.int .i64) (.pair (.int .i64) (.pair (.int .u8) .unit))) (.pair (.int .i64) (.pair (.int .i64) .unit)) y2)), (28, (.gr (.int .i64) 3 y3 true)), (20, (.var [.cell (.lst (.list (.int .i64)) x4 false), .cell (.int .i64 x5), .cell (.mp 19)]))]
noncomputable def f26_A (x1 x2 : Nat) (x3 : Mm) (x4 : List (List Int)) (x5 : Int) (x6 : List Int) : List G := [(.r (.at (.ptr 20 0 0))), (.r (.at (.sl 28 x1 x2))), (.r (.at (.fn 27)))]
noncomputable def f26_K (x1 x2 : Nat) (x3 : Mm) (x4 : List (List Int)) (x5 : Int) (x6 : List Int) : List (Nat × Blk) := [(19, (.mpb (.pair (.int .i64) (.pair (.int .i64) (.pair (.int .u8) .unit))) (.pair (.int .i64) (.pair (.int .i64) .unit)) x3)), (20, (.var [.cell (.lst (.list (.int .i64)) x4 false), .cell (.int .i64 x5), .cell (.mp 19)])), (28, (.gr (.int .i64) 3 x6 true))]
def f26_C (x1 x2 : Nat) (x3 : Mm) (x4 : List (List Int)) (x5 : Int) (x6 : List Int) (r : Nat × Nat × Mm × (List Int)) : Prop := CallOK cx 26 (f26_A x1 x2 x3 x4 x5 x6) (f26_K x1 x2 x3 x4 x5 x6) [] (f26_v r) (f26_k x1 x2 x3 x4 x5 x6 r)

def f10_M : List Nat := [19, 20, 28]
noncomputable def f10_v : ((List Int) × Int) → G := fun (y0, y1) => (.tup [(.at (.lst (.int .i64) y0 false)), (.at (.int .i64 y1))])
noncomputable def f10_k0 : ((List Int) × Int) → List (Nat × Blk) := fun (y0, y1) => []
noncomputable def f10_k (x1 : List (List Int)) : ((List Int) × Int) → List (Nat × Blk) := fun (y0, y1) => []
noncomputable def f10_A (x1 : List (List Int)) : List G := [(.r (.at (.lst (.list (.int .i64)) x1 false)))]
noncomputable def f10_K (x1 : List (List Int)) : List (Nat × Blk) := []
def f10_C (x1 : List (List Int)) (r : (List Int) × Int) : Prop := CallOK cx 10 (f10_A x1) (f10_K x1) [] (f10_v r) (f10_k x1 r)

def f28_M : List Nat := [19, 20]
noncomputable def f28_p0_H (x2 : List Int) (x3 : Int) : GS := ⟨[(1, (GL x2)), (6, (.r (.at .nilp))), (7, (GI x3)), (14, (.r (.at (.bool (x3 == 0)))))], []⟩
noncomputable def f28_p0_x : Unit → GExit := fun _ => .normal
noncomputable def f28_p0_s (x2 : List Int) (x3 : Int) : Unit → GS := fun _ => ⟨[(6, (.r (.at .nilp))), (7, (GI x3))], []⟩
def f28_p0_P (x2 : List Int) (x3 : Int) (r : Unit) : Prop := Ex cx f28_M 23 (part Try.f28 0) (f28_p0_H x2 x3) (f28_p0_x r) (f28_p0_s x2 x3 r)
noncomputable def f28_p0_1_H (x2 : List Int) (x4 : Int) (x5 : Mm) (x6 : List (List Int)) (x7 : Int) : GS := ⟨[(1, (GL x2)), (6, (.r (.at (.ptr 20 0 0)))), (7, (GI x4)), (14, (.r (.at (.bool (x4 == 0)))))], [(19, (.mpb (.pair (.int .i64) (.pair (.int .i64) (.pair (.int .u8) .unit))) (.pair (.int .i64) (.pair (.int .i64) .unit)) x5)), (20, (.var [.cell (.lst (.list (.int .i64)) x6 false), .cell (.int .i64 x7), .cell (.mp 19)]))]⟩
noncomputable def f28_p0_1_x : Int → GExit := fun y0 => .normal
noncomputable def f28_p0_1_s (x2 : List Int) (x4 : Int) (x5 : Mm) (x6 : List (List Int)) (x7 : Int) : Int → GS := fun y0 => ⟨[(6, (.r (.at (.ptr 20 0 0)))), (7, (GI y0))], [(19, (.mpb (.pair (.int .i64) (.pair (.int .i64) (.pair (.int .u8) .unit))) (.pair (.int .i64) (.pair (.int .i64) .unit)) x5)), (20, (.var [.cell (.lst (.list (.int .i64)) x6 false), .cell (.int .i64 x7), .cell (.mp 19)]))]⟩
def f28_p0_1_P (x2 : List Int) (x4 : Int) (x5 : Mm) (x6 : List (List Int)) (x7 : Int) (r : Int) : Prop := Ex cx f28_M 23 (part Try.f28 0) (f28_p0_1_H x2 x4 x5 x6 x7) (f28_p0_1_x r) (f28_p0_1_s x2 x4 x5 x6 x7 r)
noncomputable def f28_v : f28_R → G := fun
  | .c0 y0 => (.tup [(.at .nilp), (.at (.int .i64 y0))])
  | .c1 y0 y1 y2 y3 => (.tup [(.at (.ptr 20 0 0)), (.at (.int .i64 y0))])
noncomputable def f28_k0 : f28_R → List (Nat × Blk) := fun
  | .c0 y0 => []
  | .c1 y0 y1 y2 y3 => [(19, (.mpb (.pair (.int .i64) (.pair (.int .i64) (.pair (.int .u8) .unit))) (.pair (.int .i64) (.pair (.int .i64) .unit)) y1)), (20, (.var [.cell (.lst (.list (.int .i64)) y2 false), .cell (.int .i64 y3), .cell (.mp 19)]))]
noncomputable def f28_k (x1 : List (List Int)) (x2 : List Int) : f28_R → List (Nat × Blk) := fun
  | .c0 y0 => []
  | .c1 y0 y1 y2 y3 => [(19, (.mpb (.pair (.int .i64) (.pair (.int .i64) (.pair (.int .u8) .unit))) (.pair (.int .i64) (.pair (.int .i64) .unit)) y1)), (20, (.var [.cell (.lst (.list (.int .i64)) y2 false), .cell (.int .i64 y3), .cell (.mp 19)]))]
noncomputable def f28_A (x1 : List (List Int)) (x2 : List Int) : List G := [(.r (.at (.lst (.list (.int .i64)) x1 false))), (GL x2)]
noncomputable def f28_K (x1 : List (List Int)) (x2 : List Int) : List (Nat × Blk) := []
def f28_C (x1 : List (List Int)) (x2 : List Int) (r : f28_R) : Prop := CallOK cx 28 (f28_A x1 x2) (f28_K x1 x2) [] (f28_v r) (f28_k x1 x2 r)

def f29_M : List Nat := []
noncomputable def f29_p1_H (x2 : Int) (x1 : List Int) (x3 x4 x5 : Int) : GS := ⟨[(0, (.r (.at .nilp))), (2, (GI x2)), (8, (GI x3)), (9, (.r (.at (.int .u8 x4)))), (13, (GL x1)), (14, (.r (.at (.int .i64 ((List.length x1 : Nat) : Int))))), (15, (GI x5))], []⟩
noncomputable def f29_p1_x : (Int × Int) → GExit := fun (y0, y1) => (.exit 0)
noncomputable def f29_p1_s (x2 : Int) (x1 : List Int) : (Int × Int) → GS := fun (y0, y1) => ⟨[(8, (GI y0)), (9, (.r (.at (.int .u8 y1))))], []⟩
def f29_p1_P (x2 : Int) (x1 : List Int) (x3 x4 x5 : Int) (r : Int × Int) : Prop := Lp cx f29_M 51 (part Try.f29 1) (f29_p1_H x2 x1 x3 x4 x5) (f29_p1_x r) (f29_p1_s x2 x1 r)
noncomputable def f29_v : (Int × Bool) → G := fun (y0, y1) => (.tup [(.at (.int .u8 y0)), (.at (.bool y1))])
noncomputable def f29_k0 : (Int × Bool) → List (Nat × Blk) := fun (y0, y1) => []
noncomputable def f29_k (x1 : List Int) (x2 : Int) : (Int × Bool) → List (Nat × Blk) := fun (y0, y1) => []
noncomputable def f29_A (x1 : List Int) (x2 : Int) : List G := [(.r (.at .nilp)), (GL x1), (GI x2)]
noncomputable def f29_K (x1 : List Int) (x2 : Int) : List (Nat × Blk) := []
def f29_C (x1 : List Int) (x2 : Int) (r : Int × Bool) : Prop := CallOK cx 29 (f29_A x1 x2) (f29_K x1 x2) [] (f29_v r) (f29_k x1 x2 r)

def f29_1_M : List Nat := []
noncomputable def f29_1_p6_H (x2 x6 : Int) (x7 x8 : Int) (x1 : List Int) (x11 x9 : Int) (x3 : Mm) (x4 : List (List Int)) (x5 : Int) : GS := ⟨[(0, (.r (.at (.ptr 20 0 0)))), (2, (GI x2)), (8, (GI x6)), (9, (.r (.at (.int .u8 x7)))), (10, (GI x8)), (13, (GL x1)), (14, (.r (.at (.int .i64 ((List.length x1 : Nat) : Int))))), (15, (GI x8)), (39, (.r (.at (.bool ((w64 (x11 - x9)) == x6)))))], [(19, (.mpb (.pair (.int .i64) (.pair (.int .i64) (.pair (.int .u8) .unit))) (.pair (.int .i64) (.pair (.int .i64) .unit)) x3)), (20, (.var [.cell (.lst (.list (.int .i64)) x4 false), .cell (.int .i64 x5), .cell (.mp 19)]))]⟩
noncomputable def f29_1_p6_x : Int → GExit := fun y0 => .normal
noncomputable def f29_1_p6_s (x2 x6 : Int) (x7 x8 : Int) (x1 : List Int) (x11 x9 : Int) (x3 : Mm) (x4 : List (List Int)) (x5 : Int) : Int → GS := fun y0 => ⟨[(0, (.r (.at (.ptr 20 0 0)))), (2, (GI x2)), (8, (GI x6)), (9, (.r (.at (.int .u8 y0)))), (13, (GL x1)), (14, (.r (.at (.int .i64 ((List.length x1 : Nat) : Int))))), (15, (GI x8))], [(19, (.mpb (.pair (.int .i64) (.pair (.int .i64) (.pair (.int .u8) .unit))) (.pair (.int .i64) (.pair (.int .i64) .unit)) x3)), (20, (.var [.cell (.lst (.list (.int .i64)) x4 false), .cell (.int .i64 x5), .cell (.mp 19)]))]⟩
def f29_1_p6_P (x2 x6 : Int) (x7 x8 : Int) (x1 : List Int) (x11 x9 : Int) (x3 : Mm) (x4 : List (List Int)) (x5 : Int) (r : Int) : Prop := Ex cx f29_1_M 51 (part Try.f29 6) (f29_1_p6_H x2 x6 x7 x8 x1 x11 x9 x3 x4 x5) (f29_1_p6_x r) (f29_1_p6_s x2 x6 x7 x8 x1 x11 x9 x3 x4 x5 r)
noncomputable def f29_1_p5_H (x2 x6 : Int) (x7 x8 : Int) (x11 x9 : Int) (x1 : List Int) (x3 : Mm) (x4 : List (List Int)) (x5 : Int) : GS := ⟨[(0, (.r (.at (.ptr 20 0 0)))), (2, (GI x2)), (8, (GI x6)), (9, (.r (.at (.int .u8 x7)))), (10, (GI x8)), (12, (.r (.at (.int .i64 (w64 (x11 - x9)))))), (13, (GL x1)), (14, (.r (.at (.int .i64 ((List.length x1 : Nat) : Int))))), (15, (GI x8)), (32, (.r (.at (.bool (decide ((w64 (x11 - x9)) > x6))))))], [(19, (.mpb (.pair (.int .i64) (.pair (.int .i64) (.pair (.int .u8) .unit))) (.pair (.int .i64) (.pair (.int .i64) .unit)) x3)), (20, (.var [.cell (.lst (.list (.int .i64)) x4 false), .cell (.int .i64 x5), .cell (.mp 19)]))]⟩
noncomputable def f29_1_p5_x : (Int × Int) → GExit := fun (y0, y1) => .normal
noncomputable def f29_1_p5_s (x2 x6 : Int) (x7 x8 : Int) (x11 x9 : Int) (x1 : List Int) (x3 : Mm) (x4 : List (List Int)) (x5 : Int) : (Int × Int) → GS := fun (y0, y1) => ⟨[(0, (.r (.at (.ptr 20 0 0)))), (2, (GI x2)), (8, (GI y0)), (9, (.r (.at (.int .u8 y1)))), (13, (GL x1)), (14, (.r (.at (.int .i64 ((List.length x1 : Nat) : Int))))), (15, (GI x8))], [(19, (.mpb (.pair (.int .i64) (.pair (.int .i64) (.pair (.int .u8) .unit))) (.pair (.int .i64) (.pair (.int .i64) .unit)) x3)), (20, (.var [.cell (.lst (.list (.int .i64)) x4 false), .cell (.int .i64 x5), .cell (.mp 19)]))]⟩
def f29_1_p5_P (x2 x6 : Int) (x7 x8 : Int) (x11 x9 : Int) (x1 : List Int) (x3 : Mm) (x4 : List (List Int)) (x5 : Int) (r : Int × Int) : Prop := Ex cx f29_1_M 51 (part Try.f29 5) (f29_1_p5_H x2 x6 x7 x8 x11 x9 x1 x3 x4 x5) (f29_1_p5_x r) (f29_1_p5_s x2 x6 x7 x8 x11 x9 x1 x3 x4 x5 r)
noncomputable def f29_1_p1_H (x2 : Int) (x1 : List Int) (x3 : Mm) (x4 : List (List Int)) (x5 x6 : Int) (x7 x8 : Int) : GS := ⟨[(0, (.r (.at (.ptr 20 0 0)))), (2, (GI x2)), (8, (GI x6)), (9, (.r (.at (.int .u8 x7)))), (13, (GL x1)), (14, (.r (.at (.int .i64 ((List.length x1 : Nat) : Int))))), (15, (GI x8))], [(19, (.mpb (.pair (.int .i64) (.pair (.int .i64) (.pair (.int .u8) .unit))) (.pair (.int .i64) (.pair (.int .i64) .unit)) x3)), (20, (.var [.cell (.lst (.list (.int .i64)) x4 false), .cell (.int .i64 x5), .cell (.mp 19)]))]⟩
noncomputable def f29_1_p1_x : (Int × Int) → GExit := fun (y0, y1) => (.exit 0)
noncomputable def f29_1_p1_s (x2 : Int) (x1 : List Int) (x3 : Mm) (x4 : List (List Int)) (x5 : Int) : (Int × Int) → GS := fun (y0, y1) => ⟨[(8, (GI y0)), (9, (.r (.at (.int .u8 y1))))], [(19, (.mpb (.pair (.int .i64) (.pair (.int .i64) (.pair (.int .u8) .unit))) (.pair (.int .i64) (.pair (.int .i64) .unit)) x3)), (20, (.var [.cell (.lst (.list (.int .i64)) x4 false), .cell (.int .i64 x5), .cell (.mp 19)]))]⟩
def f29_1_p1_P (x2 : Int) (x1 : List Int) (x3 : Mm) (x4 : List (List Int)) (x5 x6 : Int) (x7 x8 : Int) (r : Int × Int) : Prop := Lp cx f29_1_M 51 (part Try.f29 1) (f29_1_p1_H x2 x1 x3 x4 x5 x6 x7 x8) (f29_1_p1_x r) (f29_1_p1_s x2 x1 x3 x4 x5 r)
noncomputable def f29_1_v : (Int × Bool) → G := fun (y0, y1) => (.tup [(.at (.int .u8 y0)), (.at (.bool y1))])
noncomputable def f29_1_k0 : (Int × Bool) → List (Nat × Blk) := fun (y0, y1) => []
noncomputable def f29_1_k (x1 : List Int) (x2 : Int) (x3 : Mm) (x4 : List (List Int)) (x5 : Int) : (Int × Bool) → List (Nat × Blk) := fun (y0, y1) => [(19, (.mpb (.pair (.int .i64) (.pair (.int .i64) (.pair (.int .u8) .unit))) (.pair (.int .i64) (.pair (.int .i64) .unit)) x3)), (20, (.var [.cell (.lst (.list (.int .i64)) x4 false), .cell (.int .i64 x5), .cell (.mp 19)]))]
noncomputable def f29_1_A (x1 : List Int) (x2 : Int) (x3 : Mm) (x4 : List (List Int)) (x5 : Int) : List G := [(.r (.at (.ptr 20 0 0))), (GL x1), (GI x2)]
noncomputable def f29_1_K (x1 : List Int) (x2 : Int) (x3 : Mm) (x4 : List (List Int)) (x5 : Int) : List (Nat × Blk) := [(19, (.mpb (.pair (.int .i64) (.pair (.int .i64) (.pair (.int .u8) .unit))) (.pair (.int .i64) (.pair (.int .i64) .unit)) x3)), (20, (.var [.cell (.lst (.list (.int .i64)) x4 false), .cell (.int .i64 x5), .cell (.mp 19)]))]
def f29_1_C (x1 : List Int) (x2 : Int) (x3 : Mm) (x4 : List (List Int)) (x5 : Int) (r : Int × Bool) : Prop := CallOK cx 29 (f29_1_A x1 x2 x3 x4 x5) (f29_1_K x1 x2 x3 x4 x5) [] (f29_1_v r) (f29_1_k x1 x2 x3 x4 x5 r)

def f11_M : List Nat := [19, 20]
noncomputable def f11_p0_H (x1 : List (List Int)) (x2 x3 : List Int) (x4 : Int) : GS := ⟨[(0, (.r (.at (.lst (.list (.int .i64)) x1 false)))), (1, (GL x2)), (2, (GL x3)), (7, (.r (.at .nilp))), (8, (GI x4)), (22, (.r (.at (.bool (x4 == 0)))))], []⟩
noncomputable def f11_p0_x : Int → GExit := fun y0 => .normal
noncomputable def f11_p0_s (x1 : List (List Int)) (x2 x3 : List Int) (x4 : Int) : Int → GS := fun y0 => ⟨[(1, (GL x2)), (2, (GL x3)), (7, (.r (.at .nilp))), (8, (GI y0))], []⟩
def f11_p0_P (x1 : List (List Int)) (x2 x3 : List Int) (x4 : Int) (r : Int) : Prop := Ex cx f11_M 80 (part Try.f11 0) (f11_p0_H x1 x2 x3 x4) (f11_p0_x r) (f11_p0_s x1 x2 x3 x4 r)
noncomputable def f11_p3_H (x2 x3 : List Int) (x8 : Int) : GS := ⟨[(1, (GL x2)), (2, (GL x3)), (7, (.r (.at .nilp))), (32, (GL x3)), (33, (.r (.at (.int .i64 ((List.length x3 : Nat) : Int))))), (34, (GI x8))], []⟩
noncomputable def f11_p3_x : f11_p3_R → GExit := fun
  | .c0 => .ret
  | .c1 => (.exit 0)
noncomputable def f11_p3_s (x2 x3 : List Int) : f11_p3_R → GS := fun
  | .c0 => ⟨[(6, (.r (.at (.int .i64 14))))], []⟩
  | .c1 => ⟨[(1, (GL x2)), (2, (GL x3))], []⟩
def f11_p3_P (x2 x3 : List Int) (x8 : Int) (r : f11_p3_R) : Prop := Lp cx f11_M 80 (part Try.f11 3) (f11_p3_H x2 x3 x8) (f11_p3_x r) (f11_p3_s x2 x3 r)
noncomputable def f11_p8_H (x3 x2 : List Int) (x12 : Int) : GS := ⟨[(2, (GL x3)), (64, (GL x2)), (65, (.r (.at (.int .i64 ((List.length x2 : Nat) : Int))))), (66, (GI x12))], []⟩
noncomputable def f11_p8_x : f11_p8_R → GExit := fun
  | .c0 => .ret
  | .c1 => (.exit 2)
noncomputable def f11_p8_s (x3 x2 : List Int) : f11_p8_R → GS := fun
  | .c0 => ⟨[(6, (.r (.at (.int .i64 14))))], []⟩
  | .c1 => ⟨[], []⟩
def f11_p8_P (x3 x2 : List Int) (x12 : Int) (r : f11_p8_R) : Prop := Lp cx f11_M 80 (part Try.f11 8) (f11_p8_H x3 x2 x12) (f11_p8_x r) (f11_p8_s x3 x2 r)
noncomputable def f11_p0_1_H (x1 : List (List Int)) (x2 x3 : List Int) (x15 : Int) (x16 : Mm) (x17 : List (List Int)) (x18 : Int) : GS := ⟨[(0, (.r (.at (.lst (.list (.int .i64)) x1 false)))), (1, (GL x2)), (2, (GL x3)), (7, (.r (.at (.ptr 20 0 0)))), (8, (GI x15)), (22, (.r (.at (.bool (x15 == 0)))))], [(19, (.mpb (.pair (.int .i64) (.pair (.int .i64) (.pair (.int .u8) .unit))) (.pair (.int .i64) (.pair (.int .i64) .unit)) x16)), (20, (.var [.cell (.lst (.list (.int .i64)) x17 false), .cell (.int .i64 x18), .cell (.mp 19)]))]⟩
noncomputable def f11_p0_1_x : Int → GExit := fun y0 => .normal
noncomputable def f11_p0_1_s (x1 : List (List Int)) (x2 x3 : List Int) (x15 : Int) (x16 : Mm) (x17 : List (List Int)) (x18 : Int) : Int → GS := fun y0 => ⟨[(1, (GL x2)), (2, (GL x3)), (7, (.r (.at (.ptr 20 0 0)))), (8, (GI y0))], [(19, (.mpb (.pair (.int .i64) (.pair (.int .i64) (.pair (.int .u8) .unit))) (.pair (.int .i64) (.pair (.int .i64) .unit)) x16)), (20, (.var [.cell (.lst (.list (.int .i64)) x17 false), .cell (.int .i64 x18), .cell (.mp 19)]))]⟩
def f11_p0_1_P (x1 : List (List Int)) (x2 x3 : List Int) (x15 : Int) (x16 : Mm) (x17 : List (List Int)) (x18 : Int) (r : Int) : Prop := Ex cx f11_M 80 (part Try.f11 0) (f11_p0_1_H x1 x2 x3 x15 x16 x17 x18) (f11_p0_1_x r) (f11_p0_1_s x1 x2 x3 x15 x16 x17 x18 r)
noncomputable def f11_p3_1_H (x2 x3 : List Int) (x16 : Mm) (x17 : List (List Int)) (x18 x22 : Int) : GS := ⟨[(1, (GL x2)), (2, (GL x3)), (7, (.r (.at (.ptr 20 0 0)))), (32, (GL x3)), (33, (.r (.at (.int .i64 ((List.length x3 : Nat) : Int))))), (34, (GI x22))], [(19, (.mpb (.pair (.int .i64) (.pair (.int .i64) (.pair (.int .u8) .unit))) (.pair (.int .i64) (.pair (.int .i64) .unit)) x16)), (20, (.var [.cell (.lst (.list (.int .i64)) x17 false), .cell (.int .i64 x18), .cell (.mp 19)]))]⟩
noncomputable def f11_p3_1_x : f11_p3_1_R → GExit := fun
  | .c0 => .ret
  | .c1 => (.exit 0)
noncomputable def f11_p3_1_s (x2 x3 : List Int) (x16 : Mm) (x17 : List (List Int)) (x18 : Int) : f11_p3_1_R → GS := fun
  | .c0 => ⟨[(6, (.r (.at (.int .i64 14))))], []⟩
  | .c1 => ⟨[(1, (GL x2)), (2, (GL x3))], []⟩
def f11_p3_1_P (x2 x3 : List Int) (x16 : Mm) (x17 : List (List Int)) (x18 x22 : Int) (r : f11_p3_1_R) : Prop := Lp cx f11_M 80 (part Try.f11 3) (f11_p3_1_H x2 x3 x16 x17 x18 x22) (f11_p3_1_x r) (f11_p3_1_s x2 x3 x16 x17 x18 r)
noncomputable def f11_p8_1_H (x3 x2 : List Int) (x26 : Int) : GS := ⟨[(2, (GL x3)), (64, (GL x2)), (65, (.r (.at (.int .i64 ((List.length x2 : Nat) : Int))))), (66, (GI x26))], []⟩
noncomputable def f11_p8_1_x : f11_p8_1_R → GExit := fun
  | .c0 => .ret
  | .c1 => (.exit 2)
noncomputable def f11_p8_1_s (x3 x2 : List Int) : f11_p8_1_R → GS := fun
  | .c0 => ⟨[(6, (.r (.at (.int .i64 14))))], []⟩
  | .c1 => ⟨[], []⟩
def f11_p8_1_P (x3 x2 : List Int) (x26 : Int) (r : f11_p8_1_R) : Prop := Lp cx f11_M 80 (part Try.f11 8) (f11_p8_1_H x3 x2 x26) (f11_p8_1_x r) (f11_p8_1_s x3 x2 r)
noncomputable def f11_v : Int → G := fun y0 => (GI y0)
noncomputable def f11_k0 : Int → List (Nat × Blk) := fun y0 => []
noncomputable def f11_k (x1 : List (List Int)) (x2 x3 : List Int) : Int → List (Nat × Blk) := fun y0 => []
noncomputable def f11_A (x1 : List (List Int)) (x2 x3 : List Int) : List G := [(.r (.at (.lst (.list (.int .i64)) x1 false))), (GL x2), (GL x3)]
noncomputable def f11_K (x1 : List (List Int)) (x2 x3 : List Int) : List (Nat × Blk) := []
def f11_C (x1 : List (List Int)) (x2 x3 : List Int) (r : Int) : Prop := CallOK cx 11 (f11_A x1 x2 x3) (f11_K x1 x2 x3) [] (f11_v r) (f11_k x1 x2 x3 r)

def f51_M : List Nat := []
noncomputable def f51_v : (Int × Mm) → G := fun (y0, y1) => (GI y0)
noncomputable def f51_k0 : (Int × Mm) → List (Nat × Blk) := fun (y0, y1) => [(19, (.mpb (.pair (.int .i64) (.pair (.int .i64) (.pair (.int .u8) .unit))) (.pair (.int .i64) (.pair (.int .i64) .unit)) y1))]
noncomputable def f51_k (x1 x2 : Int) (x3 : Mm) (x4 : List (List Int)) (x5 : Int) : (Int × Mm) → List (Nat × Blk) := fun (y0, y1) => [(19, (.mpb (.pair (.int .i64) (.pair (.int .i64) (.pair (.int .u8) .unit))) (.pair (.int .i64) (.pair (.int .i64) .unit)) y1)), (20, (.var [.cell (.lst (.list (.int .i64)) x4 false), .cell (.int .i64 x5), .cell (.mp 19)]))]
noncomputable def f51_A (x1 x2 : Int) (x3 : Mm) (x4 : List (List Int)) (x5 : Int) : List G := [(.r (.at (.ptr 20 0 0))), (GI x1), (GI x2)]
noncomputable def f51_K (x1 x2 : Int) (x3 : Mm) (x4 : List (List Int)) (x5 : Int) : List (Nat × Blk) := [(19, (.mpb (.pair (.int .i64) (.pair (.int .i64) (.pair (.int .u8) .unit))) (.pair (.int .i64) (.pair (.int .i64) .unit)) x3)), (20, (.var [.cell (.lst (.list (.int .i64)) x4 false), .cell (.int .i64 x5), .cell (.mp 19)]))]
def f51_C (x1 x2 : Int) (x3 : Mm) (x4 : List (List Int)) (x5 : Int) (r : Int × Mm) : Prop := CallOK cx 51 (f51_A x1 x2 x3 x4 x5) (f51_K x1 x2 x3 x4 x5) [] (f51_v r) (f51_k x1 x2 x3 x4 x5 r)

def f50_M : List Nat := [19, 20, 30]
noncomputable def f50_p2_H (x7 : List Int) (x5 : List (List Int)) (x6 x19 : Int) (x20 : Mm) (x18 : List Int) : GS := ⟨[(1, (.r (.at (.fn 51)))), (6, (.r (.at (.ptr 20 0 0)))), (8, (.r (.at (.sl 30 0 (List.length x18))))), (20, (GL x7)), (21, (.r (.at (.int .i64 ((List.length x7 : Nat) : Int))))), (22, (GI x19))], [(19, (.mpb (.pair (.int .i64) (.pair (.int .i64) (.pair (.int .u8) .unit))) (.pair (.int .i64) (.pair (.int .i64) .unit)) x20)), (20, (.var [.cell (.lst (.list (.int .i64)) x5 false), .cell (.int .i64 x6), .cell (.mp 19)])), (30, (.gr (.int .i64) 3 x18 true))]⟩
noncomputable def f50_p2_x : (List Int) → GExit := fun y0 => (.exit 0)
noncomputable def f50_p2_s (x7 : List Int) (x5 : List (List Int)) (x6 : Int) : (List Int) → GS := fun y0 => ⟨[(8, (.r (.at (.sl 30 0 (List.length y0)))))], [(30, (.gr (.int .i64) 3 y0 true))]⟩
def f50_p2_P (x7 : List Int) (x5 : List (List Int)) (x6 x19 : Int) (x20 : Mm) (x18 : List Int) (r : (List Int)) : Prop := Lp cx f50_M 37 (part Try.f50 2) (f50_p2_H x7 x5 x6 x19 x20 x18) (f50_p2_x r) (f50_p2_s x7 x5 x6 r)
noncomputable def f50_v : ((List Int) × Int) → G := fun (y0, y1) => (.tup [(.at (.lst (.int .i64) y0 false)), (.at (.int .i64 y1))])
noncomputable def f50_k0 : ((List Int) × Int) → List (Nat × Blk) := fun (y0, y1) => []
noncomputable def f50_k (x1 : List (List Int)) : ((List Int) × Int) → List (Nat × Blk) := fun (y0, y1) => []
noncomputable def f50_A (x1 : List (List Int)) : List G := [(.r (.at (.lst (.list (.int .i64)) x1 false))), (.r (.at (.fn 51)))]
noncomputable def f50_K (x1 : List (List Int)) : List (Nat × Blk) := []
def f50_C (x1 : List (List Int)) (r : (List Int) × Int) : Prop := CallOK cx 50 (f50_A x1) (f50_K x1) [] (f50_v r) (f50_k x1 r)

def f30_M : List Nat := []
noncomputable def f30_v : ((List Int) × Int) → G := fun (y0, y1) => (.tup [(.at (.lst (.int .i64) y0 false)), (.at (.int .i64 y1))])
noncomputable def f30_k0 : ((List Int) × Int) → List (Nat × Blk) := fun (y0, y1) => []
noncomputable def f30_k (x1 : List (List Int)) : ((List Int) × Int) → List (Nat × Blk) := fun (y0, y1) => []
noncomputable def f30_A (x1 : List (List Int)) : List G := [(.r (.at (.lst (.list (.int .i64)) x1 false)))]
noncomputable def f30_K (x1 : List (List Int)) : List (Nat × Blk) := []
def f30_C (x1 : List (List Int)) (r : (List Int) × Int) : Prop := CallOK cx 30 (f30_A x1) (f30_K x1) [] (f30_v r) (f30_k x1 r)

def f32_M : List Nat := []
noncomputable def f32_v : (List Int) → G := fun y0 => (GL y0)
noncomputable def f32_k0 : (List Int) → List (Nat × Blk) := fun y0 => []
noncomputable def f32_k (x1 : List Int) : (List Int) → List (Nat × Blk) := fun y0 => []
noncomputable def f32_A (x1 : List Int) : List G := [(GL x1)]
noncomputable def f32_K (x1 : List Int) : List (Nat × Blk) := []
def f32_C (x1 : List Int) (r : (List Int)) : Prop := CallOK cx 32 (f32_A x1) (f32_K x1) [] (f32_v r) (f32_k x1 r)

def f31_M : List Nat := []
noncomputable def f31_p2_H (x1 x2 : List Int) (x3 : Int) : GS := ⟨[(0, (GL x1)), (1, (GL x2)), (12, (.r (.at (.int .i64 ((List.length x1 : Nat) : Int))))), (13, (GI x3))], []⟩
noncomputable def f31_p2_x : f31_p2_R → GExit := fun
  | .c0 => .ret
  | .c1 => (.exit 0)
noncomputable def f31_p2_s (x1 x2 : List Int) : f31_p2_R → GS := fun
  | .c0 => ⟨[(4, (.r (.at (.bool false))))], []⟩
  | .c1 => ⟨[], []⟩
def f31_p2_P (x1 x2 : List Int) (x3 : Int) (r : f31_p2_R) : Prop := Lp cx f31_M 26 (part Try.f31 2) (f31_p2_H x1 x2 x3) (f31_p2_x r) (f31_p2_s x1 x2 r)
noncomputable def f31_v : Bool → G := fun y0 => (GB y0)
noncomputable def f31_k0 : Bool → List (Nat × Blk) := fun y0 => []
noncomputable def f31_k (x1 x2 : List Int) : Bool → List (Nat × Blk) := fun y0 => []
noncomputable def f31_A (x1 x2 : List Int) : List G := [(GL x1), (GL x2)]
noncomputable def f31_K (x1 x2 : List Int) : List (Nat × Blk) := []
def f31_C (x1 x2 : List Int) (r : Bool) : Prop := CallOK cx 31 (f31_A x1 x2) (f31_K x1 x2) [] (f31_v r) (f31_k x1 x2 r)

def f64_M : List Nat := []
noncomputable def f64_v : Bool → G := fun y0 => (GB y0)
noncomputable def f64_k0 : Bool → List (Nat × Blk) := fun y0 => []
noncomputable def f64_k (x1 x2 x3 : Int) : Bool → List (Nat × Blk) := fun y0 => []
noncomputable def f64_A (x1 x2 x3 : Int) : List G := [(GI x1), (GI x2), (GI x3)]
noncomputable def f64_K (x1 x2 x3 : Int) : List (Nat × Blk) := []
def f64_C (x1 x2 x3 : Int) (r : Bool) : Prop := CallOK cx 64 (f64_A x1 x2 x3) (f64_K x1 x2 x3) [] (f64_v r) (f64_k x1 x2 x3 r)

def f70_M : List Nat := []
noncomputable def f70_p0_H (x1 : Int) (x2 : Bool) : GS := ⟨[(0, (GI x1)), (5, (GB x2))], []⟩
noncomputable def f70_p0_x : Int → GExit := fun y0 => .normal
noncomputable def f70_p0_s (x1 : Int) (x2 : Bool) : Int → GS := fun y0 => ⟨[(0, (GI y0))], []⟩
def f70_p0_P (x1 : Int) (x2 : Bool) (r : Int) : Prop := Ex cx f70_M 9 (part Try.f70 0) (f70_p0_H x1 x2) (f70_p0_x r) (f70_p0_s x1 x2 r)
noncomputable def f70_v : Int → G := fun y0 => (GI y0)
noncomputable def f70_k0 : Int → List (Nat × Blk) := fun y0 => []
noncomputable def f70_k (x1 : Int) (x2 : Bool) : Int → List (Nat × Blk) := fun y0 => []
noncomputable def f70_A (x1 : Int) (x2 : Bool) : List G := [(GI x1), (GB x2)]
noncomputable def f70_K (x1 : Int) (x2 : Bool) : List (Nat × Blk) := []
def f70_C (x1 : Int) (x2 : Bool) (r : Int) : Prop := CallOK cx 70 (f70_A x1 x2) (f70_K x1 x2) [] (f70_v r) (f70_k x1 x2 r)

def f63_M : List Nat := []
noncomputable def f63_v : Int → G := fun y0 => (GI y0)
noncomputable def f63_k0 : Int → List (Nat × Blk) := fun y0 => []
noncomputable def f63_k (x1 x2 : Int) (x3 : Bool) (x4 x5 : List Int) : Int → List (Nat × Blk) := fun y0 => [(34, (.var [.cell (.int .i64 x2), .cell (.bool x3), .arr (.int .i64) 16 x4, .arr (.int .i64) 9 x5]))]
noncomputable def f63_A (x1 x2 : Int) (x3 : Bool) (x4 x5 : List Int) : List G := [(.r (.at (.ptr 34 0 0))), (GI x1)]
noncomputable def f63_K (x1 x2 : Int) (x3 : Bool) (x4 x5 : List Int) : List (Nat × Blk) := [(34, (.var [.cell (.int .i64 x2), .cell (.bool x3), .arr (.int .i64) 16 x4, .arr (.int .i64) 9 x5]))]
def f63_C (x1 x2 : Int) (x3 : Bool) (x4 x5 : List Int) (r : Int) : Prop := CallOK cx 63 (f63_A x1 x2 x3 x4 x5) (f63_K x1 x2 x3 x4 x5) [] (f63_v r) (f63_k x1 x2 x3 x4 x5 r)

def f69_M : List Nat := [33, 34, 35, 36]
noncomputable def f69_p4_H (x1 : Int) (x2 : Bool) (x3 : List Int) (x6 x7 : Int) (x8 : Bool) (x9 x10 : List Int) : GS := ⟨[(1, (.r (.at (.ptr 33 0 0)))), (4, (.r (.at (.ptr 34 0 0)))), (5, (.r (.at (.ptr 35 0 0)))), (6, (.r (.at (.ptr 36 0 0)))), (30, (GI x6))], [(33, (.var [.cell (.int .i64 x1), .cell (.bool x2), .cell (.lst (.int .i64) x3 false)])), (34, (.var [.cell (.int .i64 x7), .cell (.bool x8), .arr (.int .i64) 16 x9, .arr (.int .i64) 9 x10])), (35, (.var [.arr (.int .i64) 9 ((List.replicate 9 0) : List Int)])), (36, (.var [.arr (.int .i64) 9 ((List.replicate 9 0) : List Int)]))]⟩
noncomputable def f69_p4_x : (Int × Bool × (List Int) × (List Int)) → GExit := fun (y0, y1, y2, y3) => (.exit 1)
noncomputable def f69_p4_s (x1 : Int) (x2 : Bool) (x3 : List Int) : (Int × Bool × (List Int) × (List Int)) → GS := fun (y0, y1, y2, y3) => ⟨[(1, (.r (.at (.ptr 33 0 0)))), (4, (.r (.at (.ptr 34 0 0)))), (5, (.r (.at (.ptr 35 0 0)))), (6, (.r (.at (.ptr 36 0 0))))], [(33, (.var [.cell (.int .i64 x1), .cell (.bool x2), .cell (.lst (.int .i64) x3 false)])), (34, (.var [.cell (.int .i64 y0), .cell (.bool y1), .arr (.int .i64) 16 y2, .arr (.int .i64) 9 y3])), (35, (.var [.arr (.int .i64) 9 ((List.replicate 9 0) : List Int)])), (36, (.var [.arr (.int .i64) 9 ((List.replicate 9 0) : List Int)]))]⟩
def f69_p4_P (x1 : Int) (x2 : Bool) (x3 : List Int) (x6 x7 : Int) (x8 : Bool) (x9 x10 : List Int) (r : Int × Bool × (List Int) × (List Int)) : Prop := Lp cx f69_M 108 (part Try.f69 4) (f69_p4_H x1 x2 x3 x6 x7 x8 x9 x10) (f69_p4_x r) (f69_p4_s x1 x2 x3 r)
noncomputable def f69_p12_1_H (x21 x28 : Int) (x3 : List Int) (x31 x1 : Int) (x2 : Bool) (x22 : Int) (x23 : Bool) (x24 x25 x26 : List Int) (x30 : Int) (x27 : List Int) : GS := ⟨[(1, (.r (.at (.ptr 33 0 0)))), (4, (.r (.at (.ptr 34 0 0)))), (5, (.r (.at (.ptr 35 0 0)))), (6, (.r (.at (.ptr 36 0 0)))), (8, (GI x21)), (9, (GI x28)), (40, (GL x3)), (41, (.r (.at (.int .i64 ((List.length x3 : Nat) : Int))))), (42, (GI x21)), (60, (.r (.at (.bool (x31 == 1)))))], [(33, (.var [.cell (.int .i64 x1), .cell (.bool x2), .cell (.lst (.int .i64) x3 false)])), (34, (.var [.cell (.int .i64 x22), .cell (.bool x23), .arr (.int .i64) 16 x24, .arr (.int .i64) 9 x25])), (35, (.var [.arr (.int .i64) 9 ((List.set x26 (0 + ((Int.toNat x28) * 1)) (w64 (x30 + 1))) : List Int)])), (36, (.var [.arr (.int .i64) 9 x27]))]⟩
noncomputable def f69_p12_1_x : (List Int) → GExit := fun y0 => .normal
noncomputable def f69_p12_1_s (x21 x28 : Int) (x3 : List Int) (x31 x1 : Int) (x2 : Bool) (x22 : Int) (x23 : Bool) (x24 x25 x26 : List Int) (x30 : Int) (x27 : List Int) : (List Int) → GS := fun y0 => ⟨[(1, (.r (.at (.ptr 33 0 0)))), (4, (.r (.at (.ptr 34 0 0)))), (5, (.r (.at (.ptr 35 0 0)))), (6, (.r (.at (.ptr 36 0 0)))), (8, (GI x21)), (9, (GI x28)), (40, (GL x3)), (41, (.r (.at (.int .i64 ((List.length x3 : Nat) : Int))))), (42, (GI x21))], [(33, (.var [.cell (.int .i64 x1), .cell (.bool x2), .cell (.lst (.int .i64) x3 false)])), (34, (.var [.cell (.int .i64 x22), .cell (.bool x23), .arr (.int .i64) 16 x24, .arr (.int .i64) 9 y0])), (35, (.var [.arr (.int .i64) 9 ((List.set x26 (0 + ((Int.toNat x28) * 1)) (w64 (x30 + 1))) : List Int)])), (36, (.var [.arr (.int .i64) 9 x27]))]⟩
def f69_p12_1_P (x21 x28 : Int) (x3 : List Int) (x31 x1 : Int) (x2 : Bool) (x22 : Int) (x23 : Bool) (x24 x25 x26 : List Int) (x30 : Int) (x27 : List Int) (r : (List Int)) : Prop := Ex cx f69_M 108 (part Try.f69 12) (f69_p12_1_H x21 x28 x3 x31 x1 x2 x22 x23 x24 x25 x26 x30 x27) (f69_p12_1_x r) (f69_p12_1_s x21 x28 x3 x31 x1 x2 x22 x23 x24 x25 x26 x30 x27 r)
noncomputable def f69_p8_H (x3 : List Int) (x1 : Int) (x2 : Bool) (x21 x22 : Int) (x23 : Bool) (x24 x25 : List Int) (x26 x27 : List Int) : GS := ⟨[(1, (.r (.at (.ptr 33 0 0)))), (4, (.r (.at (.ptr 34 0 0)))), (5, (.r (.at (.ptr 35 0 0)))), (6, (.r (.at (.ptr 36 0 0)))), (40, (GL x3)), (41, (.r (.at (.int .i64 ((List.length x3 : Nat) : Int))))), (42, (GI x21))], [(33, (.var [.cell (.int .i64 x1), .cell (.bool x2), .cell (.lst (.int .i64) x3 false)])), (34, (.var [.cell (.int .i64 x22), .cell (.bool x23), .arr (.int .i64) 16 x24, .arr (.int .i64) 9 x25])), (35, (.var [.arr (.int .i64) 9 x26])), (36, (.var [.arr (.int .i64) 9 x27]))]⟩
noncomputable def f69_p8_x : f69_p8_R → GExit := fun
  | .c0 => .ret
  | .c1 y0 y1 y2 y3 y4 y5 => (.exit 3)
noncomputable def f69_p8_s (x3 : List Int) (x1 : Int) (x2 : Bool) : f69_p8_R → GS := fun
  | .c0 => ⟨[(2, (.r (.at .nilp))), (3, (.r (.at (.int .i64 2))))], []⟩
  | .c1 y0 y1 y2 y3 y4 y5 => ⟨[(1, (.r (.at (.ptr 33 0 0)))), (4, (.r (.at (.ptr 34 0 0)))), (5, (.r (.at (.ptr 35 0 0)))), (6, (.r (.at (.ptr 36 0 0))))], [(33, (.var [.cell (.int .i64 x1), .cell (.bool x2), .cell (.lst (.int .i64) x3 false)])), (34, (.var [.cell (.int .i64 y0), .cell (.bool y1), .arr (.int .i64) 16 y2, .arr (.int .i64) 9 y3])), (35, (.var [.arr (.int .i64) 9 y4])), (36, (.var [.arr (.int .i64) 9 y5]))]⟩
def f69_p8_P (x3 : List Int) (x1 : Int) (x2 : Bool) (x21 x22 : Int) (x23 : Bool) (x24 x25 : List Int) (x26 x27 : List Int) (r : f69_p8_R) : Prop := Lp cx f69_M 108 (part Try.f69 8) (f69_p8_H x3 x1 x2 x21 x22 x23 x24 x25 x26 x27) (f69_p8_x r) (f69_p8_s x3 x1 x2 r)
noncomputable def f69_p14_H (x1 : Int) (x2 : Bool) (x3 : List Int) (x33 : Int) (x34 : Bool) (x35 x36 : List Int) (x37 x38 : List Int) (x39 : Int) : GS := ⟨[(1, (.r (.at (.ptr 33 0 0)))), (4, (.r (.at (.ptr 34 0 0)))), (5, (.r (.at (.ptr 35 0 0)))), (6, (.r (.at (.ptr 36 0 0)))), (10, (GI x39))], [(33, (.var [.cell (.int .i64 x1), .cell (.bool x2), .cell (.lst (.int .i64) x3 false)])), (34, (.var [.cell (.int .i64 x33), .cell (.bool x34), .arr (.int .i64) 16 x35, .arr (.int .i64) 9 x36])), (35, (.var [.arr (.int .i64) 9 x37])), (36, (.var [.arr (.int .i64) 9 x38]))]⟩
noncomputable def f69_p14_x : f69_p14_R → GExit := fun
  | .c0 y0 => .ret
  | .c1 => (.exit 5)
noncomputable def f69_p14_s (x1 : Int) (x2 : Bool) (x3 : List Int) (x33 : Int) (x34 : Bool) (x35 x36 : List Int) (x37 x38 : List Int) : f69_p14_R → GS := fun
  | .c0 y0 => ⟨[(2, (.r (.at .nilp))), (3, (GI y0))], []⟩
  | .c1 => ⟨[(4, (.r (.at (.ptr 34 0 0))))], [(34, (.var [.cell (.int .i64 x33), .cell (.bool x34), .arr (.int .i64) 16 x35, .arr (.int .i64) 9 x36]))]⟩
def f69_p14_P (x1 : Int) (x2 : Bool) (x3 : List Int) (x33 : Int) (x34 : Bool) (x35 x36 : List Int) (x37 x38 : List Int) (x39 : Int) (r : f69_p14_R) : Prop := Lp cx f69_M 108 (part Try.f69 14) (f69_p14_H x1 x2 x3 x33 x34 x35 x36 x37 x38 x39) (f69_p14_x r) (f69_p14_s x1 x2 x3 x33 x34 x35 x36 x37 x38 r)
noncomputable def f69_v : f69_R → G := fun
  | .c0 y0 => (.tup [(.at .nilp), (.at (.int .i64 y0))])
  | .c1 y0 y1 y2 y3 y4 => (.tup [(.at (.ptr 34 0 0)), (.at (.int .i64 y0))])
noncomputable def f69_k0 : f69_R → List (Nat × Blk) := fun
  | .c0 y0 => []
  | .c1 y0 y1 y2 y3 y4 => [(34, (.var [.cell (.int .i64 y1), .cell (.bool y2), .arr (.int .i64) 16 y3, .arr (.int .i64) 9 y4]))]
noncomputable def f69_k (x1 : Int) (x2 : Bool) (x3 : List Int) : f69_R → List (Nat × Blk) := fun
  | .c0 y0 => []
  | .c1 y0 y1 y2 y3 y4 => [(34, (.var [.cell (.int .i64 y1), .cell (.bool y2), .arr (.int .i64) 16 y3, .arr (.int .i64) 9 y4]))]
noncomputable def f69_A (x1 : Int) (x2 : Bool) (x3 : List Int) : List G := [(.r (.agg [.cell (.int .i64 x1), .cell (.bool x2), .cell (.lst (.int .i64) x3 false)]))]
noncomputable def f69_K (x1 : Int) (x2 : Bool) (x3 : List Int) : List (Nat × Blk) := []
def f69_C (x1 : Int) (x2 : Bool) (x3 : List Int) (r : f69_R) : Prop := CallOK cx 69 (f69_A x1 x2 x3) (f69_K x1 x2 x3) [] (f69_v r) (f69_k x1 x2 x3 r)

def f62_M : List Nat := [32, 34]
noncomputable def f62_v : f62_R → G := fun
  | .c0 y0 => (.tup [(.at .nilp), (.at (.int .i64 y0))])
  | .c1 y0 y1 y2 y3 y4 => (.tup [(.at (.ptr 34 0 0)), (.at (.int .i64 y0))])
noncomputable def f62_k0 : f62_R → List (Nat × Blk) := fun
  | .c0 y0 => []
  | .c1 y0 y1 y2 y3 y4 => [(34, (.var [.cell (.int .i64 y1), .cell (.bool y2), .arr (.int .i64) 16 y3, .arr (.int .i64) 9 y4]))]
noncomputable def f62_k (x1 : Int) (x2 : Bool) (x3 : List Int) (x4 : Int) : f62_R → List (Nat × Blk) := fun
  | .c0 y0 => []
  | .c1 y0 y1 y2 y3 y4 => [(34, (.var [.cell (.int .i64 y1), .cell (.bool y2), .arr (.int .i64) 16 y3, .arr (.int .i64) 9 y4]))]
noncomputable def f62_A (x1 : Int) (x2 : Bool) (x3 : List Int) (x4 : Int) : List G := [(.r (.agg [.cell (.int .i64 x1), .cell (.bool x2), .cell (.lst (.int .i64) x3 false)])), (GI x4)]
noncomputable def f62_K (x1 : Int) (x2 : Bool) (x3 : List Int) (x4 : Int) : List (Nat × Blk) := []
def f62_C (x1 : Int) (x2 : Bool) (x3 : List Int) (x4 : Int) (r : f62_R) : Prop := CallOK cx 62 (f62_A x1 x2 x3 x4) (f62_K x1 x2 x3 x4) [] (f62_v r) (f62_k x1 x2 x3 x4 r)

def f52_M : List Nat := [31, 34, 37]
noncomputable def f52_p6_1_H (x4 x11 x12 : Int) (x18 : List Int) (x19 : Int) (x22 x23 : Bool) (x7 : Int) (x8 : Bool) (x9 x10 : List Int) : GS := ⟨[(1, (GI x4)), (6, (.r (.at (.ptr 34 0 0)))), (8, (GI x11)), (9, (GI x12)), (10, (.r (.at (.sl 37 0 (List.length x18))))), (11, (GI x19)), (69, (.r (.at (.bool (!(x22 == x23))))))], [(34, (.var [.cell (.int .i64 x7), .cell (.bool x8), .arr (.int .i64) 16 x9, .arr (.int .i64) 9 x10])), (37, (.gr (.int .i64) 3 x18 true))]⟩
noncomputable def f52_p6_1_x : (List Int) → GExit := fun y0 => .normal
noncomputable def f52_p6_1_s (x4 x11 x12 : Int) (x18 : List Int) (x19 : Int) (x22 x23 : Bool) (x7 : Int) (x8 : Bool) (x9 x10 : List Int) : (List Int) → GS := fun y0 => ⟨[(1, (GI x4)), (6, (.r (.at (.ptr 34 0 0)))), (8, (GI x11)), (9, (GI x12)), (10, (.r (.at (.sl 37 0 (List.length y0))))), (11, (GI x19))], [(34, (.var [.cell (.int .i64 x7), .cell (.bool x8), .arr (.int .i64) 16 x9, .arr (.int .i64) 9 x10])), (37, (.gr (.int .i64) 3 y0 true))]⟩
def f52_p6_1_P (x4 x11 x12 : Int) (x18 : List Int) (x19 : Int) (x22 x23 : Bool) (x7 : Int) (x8 : Bool) (x9 x10 : List Int) (r : (List Int)) : Prop := Ex cx f52_M 75 (part Try.f52 6) (f52_p6_1_H x4 x11 x12 x18 x19 x22 x23 x7 x8 x9 x10) (f52_p6_1_x r) (f52_p6_1_s x4 x11 x12 x18 x19 x22 x23 x7 x8 x9 x10 r)
noncomputable def f52_p2_H (x4 x11 : Int) (x12 x7 : Int) (x8 : Bool) (x9 x10 : List Int) (x19 : Int) (x18 : List Int) : GS := ⟨[(1, (GI x4)), (6, (.r (.at (.ptr 34 0 0)))), (8, (GI x11)), (9, (GI x12)), (10, (.r (.at (.sl 37 0 (List.length x18))))), (11, (GI x19))], [(34, (.var [.cell (.int .i64 x7), .cell (.bool x8), .arr (.int .i64) 16 x9, .arr (.int .i64) 9 x10])), (37, (.gr (.int .i64) 3 x18 true))]⟩
noncomputable def f52_p2_x : (List Int) → GExit := fun y0 => (.exit 0)
noncomputable def f52_p2_s (x4 x11 : Int) (x12 x7 : Int) (x8 : Bool) (x9 x10 : List Int) : (List Int) → GS := fun y0 => ⟨[(10, (.r (.at (.sl 37 0 (List.length y0)))))], [(37, (.gr (.int .i64) 3 y0 true))]⟩
def f52_p2_P (x4 x11 : Int) (x12 x7 : Int) (x8 : Bool) (x9 x10 : List Int) (x19 : Int) (x18 : List Int) (r : (List Int)) : Prop := Lp cx f52_M 75 (part Try.f52 2) (f52_p2_H x4 x11 x12 x7 x8 x9 x10 x19 x18) (f52_p2_x r) (f52_p2_s x4 x11 x12 x7 x8 x9 x10 r)
noncomputable def f52_v : ((List Int) × Int) → G := fun (y0, y1) => (.tup [(.at (.lst (.int .i64) y0 false)), (.at (.int .i64 y1))])
noncomputable def f52_k0 : ((List Int) × Int) → List (Nat × Blk) := fun (y0, y1) => []
noncomputable def f52_k (x1 : Int) (x2 : Bool) (x3 : List Int) (x4 : Int) : ((List Int) × Int) → List (Nat × Blk) := fun (y0, y1) => []
noncomputable def f52_A (x1 : Int) (x2 : Bool) (x3 : List Int) (x4 : Int) : List G := [(.r (.agg [.cell (.int .i64 x1), .cell (.bool x2), .cell (.lst (.int .i64) x3 false)])), (GI x4)]
noncomputable def f52_K (x1 : Int) (x2 : Bool) (x3 : List Int) (x4 : Int) : List (Nat × Blk) := []
def f52_C (x1 : Int) (x2 : Bool) (x3 : List Int) (x4 : Int) (r : (List Int) × Int) : Prop := CallOK cx 52 (f52_A x1 x2 x3 x4) (f52_K x1 x2 x3 x4) [] (f52_v r) (f52_k x1 x2 x3 x4 r)

def f78_M : List Nat := []
noncomputable def f78_v : Bool → G := fun y0 => (GB y0)
noncomputable def f78_k0 : Bool → List (Nat × Blk) := fun y0 => []
noncomputable def f78_k (x1 x2 x3 : Int) : Bool → List (Nat × Blk) := fun y0 => []
noncomputable def f78_A (x1 x2 x3 : Int) : List G := [(GI x1), (GI x2), (GI x3)]
noncomputable def f78_K (x1 x2 x3 : Int) : List (Nat × Blk) := []
def f78_C (x1 x2 x3 : Int) (r : Bool) : Prop := CallOK cx 78 (f78_A x1 x2 x3) (f78_K x1 x2 x3) [] (f78_v r) (f78_k x1 x2 x3 r)

def f84_M : List Nat := []
noncomputable def f84_p4_H (x1 : List Int) (x2 x3 : Int) : GS := ⟨[(3, (GI x2)), (14, (GL x1)), (15, (.r (.at (.int .i64 ((List.length x1 : Nat) : Int))))), (16, (GI x3))], []⟩
noncomputable def f84_p4_x : f84_p4_R → GExit := fun
  | .c0 y0 => .ret
  | .c1 => (.exit 1)
noncomputable def f84_p4_s (x1 : List Int) : f84_p4_R → GS := fun
  | .c0 y0 => ⟨[(2, (GI y0))], []⟩
  | .c1 => ⟨[], []⟩
def f84_p4_P (x1 : List Int) (x2 x3 : Int) (r : f84_p4_R) : Prop := Lp cx f84_M 30 (part Try.f84 4) (f84_p4_H x1 x2 x3) (f84_p4_x r) (f84_p4_s x1 r)
noncomputable def f84_v : Int → G := fun y0 => (GI y0)
noncomputable def f84_k0 : Int → List (Nat × Blk) := fun y0 => []
noncomputable def f84_k (x1 : List Int) : Int → List (Nat × Blk) := fun y0 => []
noncomputable def f84_A (x1 : List Int) : List G := [(GL x1)]
noncomputable def f84_K (x1 : List Int) : List (Nat × Blk) := []
def f84_C (x1 : List Int) (r : Int) : Prop := CallOK cx 84 (f84_A x1) (f84_K x1) [] (f84_v r) (f84_k x1 r)

def f85_M : List Nat := []
noncomputable def f85_p0_H (x1 : List Int) : GS := ⟨[(0, (GL x1)), (7, (.r (.at (.bool (decide (((List.length x1 : Nat) : Int) < 1))))))], []⟩
noncomputable def f85_p0_x : Unit → GExit := fun _ => .normal
noncomputable def f85_p0_s (x1 : List Int) : Unit → GS := fun _ => ⟨[(0, (GL x1))], []⟩
def f85_p0_P (x1 : List Int) (r : Unit) : Prop := Ex cx f85_M 25 (part Try.f85 0) (f85_p0_H x1) (f85_p0_x r) (f85_p0_s x1 r)
noncomputable def f85_p2_H (x1 : List Int) (x3 x4 : Int) : GS := ⟨[(0, (GL x1)), (3, (GI x3)), (4, (GI x4))], []⟩
noncomputable def f85_p2_x : Int → GExit := fun y0 => (.exit 0)
noncomputable def f85_p2_s (x1 : List Int) : Int → GS := fun y0 => ⟨[(3, (GI y0))], []⟩
def f85_p2_P (x1 : List Int) (x3 x4 : Int) (r : Int) : Prop := Lp cx f85_M 25 (part Try.f85 2) (f85_p2_H x1 x3 x4) (f85_p2_x r) (f85_p2_s x1 r)
noncomputable def f85_v : Int → G := fun y0 => (GI y0)
noncomputable def f85_k0 : Int → List (Nat × Blk) := fun y0 => []
noncomputable def f85_k (x1 : List Int) : Int → List (Nat × Blk) := fun y0 => []
noncomputable def f85_A (x1 : List Int) : List G := [(GL x1)]
noncomputable def f85_K (x1 : List Int) : List (Nat × Blk) := []
def f85_C (x1 : List Int) (r : Int) : Prop := CallOK cx 85 (f85_A x1) (f85_K x1) [] (f85_v r) (f85_k x1 r)

def f86_M : List Nat := []
noncomputable def f86_p0_H (x1 : List Int) : GS := ⟨[(0, (GL x1)), (7, (.r (.at (.bool (decide (((List.length x1 : Nat) : Int) < 1))))))], []⟩
noncomputable def f86_p0_x : Unit → GExit := fun _ => .normal
noncomputable def f86_p0_s (x1 : List Int) : Unit → GS := fun _ => ⟨[(0, (GL x1))], []⟩
def f86_p0_P (x1 : List Int) (r : Unit) : Prop := Ex cx f86_M 25 (part Try.f86 0) (f86_p0_H x1) (f86_p0_x r) (f86_p0_s x1 r)
noncomputable def f86_p2_H (x1 : List Int) (x3 x4 : Int) : GS := ⟨[(0, (GL x1)), (3, (GI x3)), (4, (GI x4))], []⟩
noncomputable def f86_p2_x : Int → GExit := fun y0 => (.exit 0)
noncomputable def f86_p2_s (x1 : List Int) : Int → GS := fun y0 => ⟨[(3, (GI y0))], []⟩
def f86_p2_P (x1 : List Int) (x3 x4 : Int) (r : Int) : Prop := Lp cx f86_M 25 (part Try.f86 2) (f86_p2_H x1 x3 x4) (f86_p2_x r) (f86_p2_s x1 r)
noncomputable def f86_v : Int → G := fun y0 => (GI y0)
noncomputable def f86_k0 : Int → List (Nat × Blk) := fun y0 => []
noncomputable def f86_k (x1 : List Int) : Int → List (Nat × Blk) := fun y0 => []
noncomputable def f86_A (x1 : List Int) : List G := [(GL x1)]
noncomputable def f86_K (x1 : List Int) : List (Nat × Blk) := []
def f86_C (x1 : List Int) (r : Int) : Prop := CallOK cx 86 (f86_A x1) (f86_K x1) [] (f86_v r) (f86_k x1 r)

def f77_M : List Nat := [39]
noncomputable def f77_v : ((List Int) × (List Int) × Int) → G := fun (y0, y1, y2) => (.tup [(.agg [.cell (.lst (.int .i64) y0 false), .cell (.lst (.int .i64) y1 false)]), (.at (.int .i64 y2))])
noncomputable def f77_k0 : ((List Int) × (List Int) × Int) → List (Nat × Blk) := fun (y0, y1, y2) => []
noncomputable def f77_k (x1 x2 : List Int) : ((List Int) × (List Int) × Int) → List (Nat × Blk) := fun (y0, y1, y2) => []
noncomputable def f77_A (x1 x2 : List Int) : List G := [(GL x1), (GL x2)]
noncomputable def f77_K (x1 x2 : List Int) : List (Nat × Blk) := []
def f77_C (x1 x2 : List Int) (r : (List Int) × (List Int) × Int) : Prop := CallOK cx 77 (f77_A x1 x2) (f77_K x1 x2) [] (f77_v r) (f77_k x1 x2 r)

def f71_M : List Nat := [38, 40]
noncomputable def f71_p0_H (x6 : Int) (x7 : Bool) (x4 x5 : List Int) : GS := ⟨[(6, (.r (.at (.ptr 38 0 0)))), (8, (.r (.at (.ptr 40 0 0)))), (9, (GI x6)), (22, (.r (.at (.bool (!x7)))))], [(38, (.var [.cell .nils, .cell .nils])), (40, (.var [.cell (.lst (.int .i64) x4 false), .cell (.lst (.int .i64) x5 false)]))]⟩
noncomputable def f71_p0_x : Int → GExit := fun y0 => .normal
noncomputable def f71_p0_s (x6 : Int) (x7 : Bool) (x4 x5 : List Int) : Int → GS := fun y0 => ⟨[(6, (.r (.at (.ptr 38 0 0)))), (8, (.r (.at (.ptr 40 0 0)))), (9, (GI y0))], [(38, (.var [.cell .nils, .cell .nils])), (40, (.var [.cell (.lst (.int .i64) x4 false), .cell (.lst (.int .i64) x5 false)]))]⟩
def f71_p0_P (x6 : Int) (x7 : Bool) (x4 x5 : List Int) (r : Int) : Prop := Ex cx f71_M 25 (part Try.f71 0) (f71_p0_H x6 x7 x4 x5) (f71_p0_x r) (f71_p0_s x6 x7 x4 x5 r)
noncomputable def f71_v : ((List Int) × (List Int) × Int) → G := fun (y0, y1, y2) => (.tup [(.agg [.cell (.lst (.int .i64) y0 false), .cell (.lst (.int .i64) y1 false)]), (.at (.int .i64 y2))])
noncomputable def f71_k0 : ((List Int) × (List Int) × Int) → List (Nat × Blk) := fun (y0, y1, y2) => []
noncomputable def f71_k (x1 x2 : List Int) (x3 : Int) : ((List Int) × (List Int) × Int) → List (Nat × Blk) := fun (y0, y1, y2) => []
noncomputable def f71_A (x1 x2 : List Int) (x3 : Int) : List G := [(GL x1), (GL x2), (GI x3)]
noncomputable def f71_K (x1 x2 : List Int) (x3 : Int) : List (Nat × Blk) := []
def f71_C (x1 x2 : List Int) (x3 : Int) (r : (List Int) × (List Int) × Int) : Prop := CallOK cx 71 (f71_A x1 x2 x3) (f71_K x1 x2 x3) [] (f71_v r) (f71_k x1 x2 x3 r)

def f79_1_M : List Nat := []
noncomputable def f79_1_v : Int → G := fun y0 => (GI y0)
noncomputable def f79_1_k0 : Int → List (Nat × Blk) := fun y0 => []
noncomputable def f79_1_k (x1 : Int) (x2 : List Int) (x3 x4 x5 : Int) : Int → List (Nat × Blk) := fun y0 => [(44, (.var [.cell (.lst (.int .i64) x2 false)])), (46, (.var [.cell (.int .i64 x3)])), (49, (.var [.cell (.int .i64 x4)])), (50, (.var [.cell (.int .i64 x5)]))]
noncomputable def f79_1_A (x1 : Int) (x2 : List Int) (x3 x4 x5 : Int) : List G := [(GI x1), (.r (.at (.ptr 44 0 0))), (.r (.at (.ptr 49 0 0))), (.r (.at (.ptr 46 0 0))), (.r (.at (.ptr 50 0 0)))]
noncomputable def f79_1_K (x1 : Int) (x2 : List Int) (x3 x4 x5 : Int) : List (Nat × Blk) := [(44, (.var [.cell (.lst (.int .i64) x2 false)])), (46, (.var [.cell (.int .i64 x3)])), (49, (.var [.cell (.int .i64 x4)])), (50, (.var [.cell (.int .i64 x5)]))]
def f79_1_C (x1 : Int) (x2 : List Int) (x3 x4 x5 : Int) (r : Int) : Prop := CallOK cx 79 (f79_1_A x1 x2 x3 x4 x5) (f79_1_K x1 x2 x3 x4 x5) [] (f79_1_v r) (f79_1_k x1 x2 x3 x4 x5 r)

def f72_M : List Nat := [42, 43, 44, 45, 46, 47, 48, 49, 50, 51, 52]
noncomputable def f72_p1_H (x3 : Int) (x1 x2 : List Int) (x6 : Int) (x5 : List Int) : GS := ⟨[(1, (GI x3)), (2, (.r (.at (.ptr 42 0 0)))), (6, (.r (.at (.ptr 44 0 0)))), (26, (.r (.at (.int .i64 (((Int.toNat (w64 (x3 + 1))) : Nat) : Int))))), (27, (GI x6))], [(42, (.var [.cell (.lst (.int .i64) x1 false), .cell (.lst (.int .i64) x2 false)])), (43, (.gr (.int .i64) 3 x5 true)), (44, (.var [.cell (.sl 43 0 (Int.toNat (w64 (x3 + 1))))]))]⟩
noncomputable def f72_p1_x : (List Int) → GExit := fun y0 => (.exit 0)
noncomputable def f72_p1_s (x3 : Int) (x1 x2 : List Int) : (List Int) → GS := fun y0 => ⟨[(1, (GI x3)), (2, (.r (.at (.ptr 42 0 0)))), (6, (.r (.at (.ptr 44 0 0))))], [(42, (.var [.cell (.lst (.int .i64) x1 false), .cell (.lst (.int .i64) x2 false)])), (43, (.gr (.int .i64) 3 y0 true)), (44, (.var [.cell (.sl 43 0 (Int.toNat (w64 (x3 + 1))))]))]⟩
def f72_p1_P (x3 : Int) (x1 x2 : List Int) (x6 : Int) (x5 : List Int) (r : (List Int)) : Prop := Lp cx f72_M 178 (part Try.f72 1) (f72_p1_H x3 x1 x2 x6 x5) (f72_p1_x r) (f72_p1_s x3 x1 x2 r)
noncomputable def f72_p17_17_H (x3 : Int) (x1 : List Int) (x134 x137 : Int) (x136 x167 : Int) (x2 x135 : List Int) (x133 : List (List Int)) (x179 x180 : List Int) (x182 : Int) (x183 : List Int) : GS := ⟨[(1, (GI x3)), (2, (.r (.at (.ptr 42 0 0)))), (6, (.r (.at (.ptr 44 0 0)))), (8, (.r (.at (.sl 45 0 (Int.toNat ((List.length x1 : Nat) : Int)))))), (9, (GI x134)), (10, (.r (.at (.ptr 46 0 0)))), (11, (GI x137)), (12, (.r (.at (.sl 47 0 (Int.toNat (w64 (x3 + 1))))))), (13, (.r (.at (.sl 48 0 (Int.toNat (w64 (x3 + 1))))))), (14, (.r (.at (.ptr 49 0 0)))), (15, (.r (.at (.sl 51 0 (List.length x183))))), (16, (.r (.at (.ptr 50 0 0)))), (17, (.r (.at (.app2 (.app2 (.app2 (.app2 (.fn 79) (.ptr 44 0 0)) (.ptr 49 0 0)) (.ptr 46 0 0)) (.ptr 50 0 0))))), (67, (.r (.at (.int .i64 (if (w64 (x3 + 1)) < x136 then (w64 (x3 + 1)) else x136))))), (68, (GI x167))], [(42, (.var [.cell (.lst (.int .i64) x1 false), .cell (.lst (.int .i64) x2 false)])), (44, (.var [.cell (.lst (.int .i64) x135 false)])), (45, (.gr (.list (.int .i64)) 23 x133 true)), (46, (.var [.cell (.int .i64 x136)])), (47, (.gr (.int .i64) 3 x179 true)), (48, (.gr (.int .i64) 3 x180 true)), (49, (.var [.cell (.int .i64 x167)])), (50, (.var [.cell (.int .i64 x182)])), (51, (.gr (.int .i64) 3 x183 true))]⟩
noncomputable def f72_p17_17_x : (List Int) → GExit := fun y0 => (.exit 8)
noncomputable def f72_p17_17_s (x3 : Int) (x1 : List Int) (x134 x137 : Int) (x136 x167 : Int) (x2 x135 : List Int) (x133 : List (List Int)) (x179 x180 : List Int) (x182 : Int) : (List Int) → GS := fun y0 => ⟨[(1, (GI x3)), (2, (.r (.at (.ptr 42 0 0)))), (6, (.r (.at (.ptr 44 0 0)))), (8, (.r (.at (.sl 45 0 (Int.toNat ((List.length x1 : Nat) : Int)))))), (9, (GI x134)), (10, (.r (.at (.ptr 46 0 0)))), (11, (GI x137)), (12, (.r (.at (.sl 47 0 (Int.toNat (w64 (x3 + 1))))))), (13, (.r (.at (.sl 48 0 (Int.toNat (w64 (x3 + 1))))))), (14, (.r (.at (.ptr 49 0 0)))), (15, (.r (.at (.sl 51 0 (List.length y0))))), (16, (.r (.at (.ptr 50 0 0)))), (17, (.r (.at (.app2 (.app2 (.app2 (.app2 (.fn 79) (.ptr 44 0 0)) (.ptr 49 0 0)) (.ptr 46 0 0)) (.ptr 50 0 0))))), (67, (.r (.at (.int .i64 (if (w64 (x3 + 1)) < x136 then (w64 (x3 + 1)) else x136))))), (68, (GI x167))], [(42, (.var [.cell (.lst (.int .i64) x1 false), .cell (.lst (.int .i64) x2 false)])), (44, (.var [.cell (.lst (.int .i64) x135 false)])), (45, (.gr (.list (.int .i64)) 23 x133 true)), (46, (.var [.cell (.int .i64 x136)])), (47, (.gr (.int .i64) 3 x179 true)), (48, (.gr (.int .i64) 3 x180 true)), (49, (.var [.cell (.int .i64 x167)])), (50, (.var [.cell (.int .i64 x182)])), (51, (.gr (.int .i64) 3 y0 true))]⟩
def f72_p17_17_P (x3 : Int) (x1 : List Int) (x134 x137 : Int) (x136 x167 : Int) (x2 x135 : List Int) (x133 : List (List Int)) (x179 x180 : List Int) (x182 : Int) (x183 : List Int) (r : (List Int)) : Prop := Lp cx f72_M 178 (part Try.f72 17) (f72_p17_17_H x3 x1 x134 x137 x136 x167 x2 x135 x133 x179 x180 x182 x183) (f72_p17_17_x r) (f72_p17_17_s x3 x1 x134 x137 x136 x167 x2 x135 x133 x179 x180 x182 r)
noncomputable def f72_p20_17_H (x3 : Int) (x1 : List Int) (x134 x137 : Int) (x187 : List Int) (x182 x136 : Int) (x167 x188 : Int) (x2 x135 : List Int) (x133 : List (List Int)) (x179 x180 : List Int) : GS := ⟨[(1, (GI x3)), (2, (.r (.at (.ptr 42 0 0)))), (6, (.r (.at (.ptr 44 0 0)))), (8, (.r (.at (.sl 45 0 (Int.toNat ((List.length x1 : Nat) : Int)))))), (9, (GI x134)), (10, (.r (.at (.ptr 46 0 0)))), (11, (GI x137)), (12, (.r (.at (.sl 47 0 (Int.toNat (w64 (x3 + 1))))))), (13, (.r (.at (.sl 48 0 (Int.toNat (w64 (x3 + 1))))))), (14, (.r (.at (.ptr 49 0 0)))), (15, (.r (.at (.sl 51 0 (List.length (x187 ++ ([x182] : List Int))))))), (16, (.r (.at (.ptr 50 0 0)))), (17, (.r (.at (.app2 (.app2 (.app2 (.app2 (.fn 79) (.ptr 44 0 0)) (.ptr 49 0 0)) (.ptr 46 0 0)) (.ptr 50 0 0))))), (67, (.r (.at (.int .i64 (if (w64 (x3 + 1)) < x136 then (w64 (x3 + 1)) else x136))))), (68, (GI x167)), (113, (.r (.at (.bool (decide (x188 < (w64 (x182 - x137))))))))], [(42, (.var [.cell (.lst (.int .i64) x1 false), .cell (.lst (.int .i64) x2 false)])), (44, (.var [.cell (.lst (.int .i64) x135 false)])), (45, (.gr (.list (.int .i64)) 23 x133 true)), (46, (.var [.cell (.int .i64 x136)])), (47, (.gr (.int .i64) 3 x179 true)), (48, (.gr (.int .i64) 3 x180 true)), (49, (.var [.cell (.int .i64 x167)])), (50, (.var [.cell (.int .i64 x182)])), (51, (.gr (.int .i64) 3 ((x187 ++ ([x182] : List Int)) : List Int) true))]⟩
noncomputable def f72_p20_17_x : (List Int) → GExit := fun y0 => .normal
noncomputable def f72_p20_17_s (x3 : Int) (x1 : List Int) (x134 x137 : Int) (x187 : List Int) (x182 x136 : Int) (x167 x188 : Int) (x2 x135 : List Int) (x133 : List (List Int)) (x179 x180 : List Int) : (List Int) → GS := fun y0 => ⟨[(1, (GI x3)), (2, (.r (.at (.ptr 42 0 0)))), (6, (.r (.at (.ptr 44 0 0)))), (8, (.r (.at (.sl 45 0 (Int.toNat ((List.length x1 : Nat) : Int)))))), (9, (GI x134)), (10, (.r (.at (.ptr 46 0 0)))), (11, (GI x137)), (12, (.r (.at (.sl 47 0 (Int.toNat (w64 (x3 + 1))))))), (13, (.r (.at (.sl 48 0 (Int.toNat (w64 (x3 + 1))))))), (14, (.r (.at (.ptr 49 0 0)))), (15, (.r (.at (.sl 51 0 (List.length y0))))), (16, (.r (.at (.ptr 50 0 0)))), (17, (.r (.at (.app2 (.app2 (.app2 (.app2 (.fn 79) (.ptr 44 0 0)) (.ptr 49 0 0)) (.ptr 46 0 0)) (.ptr 50 0 0))))), (67, (.r (.at (.int .i64 (if (w64 (x3 + 1)) < x136 then (w64 (x3 + 1)) else x136))))), (68, (GI x167))], [(42, (.var [.cell (.lst (.int .i64) x1 false), .cell (.lst (.int .i64) x2 false)])), (44, (.var [.cell (.lst (.int .i64) x135 false)])), (45, (.gr (.list (.int .i64)) 23 x133 true)), (46, (.var [.cell (.int .i64 x136)])), (47, (.gr (.int .i64) 3 x179 true)), (48, (.gr (.int .i64) 3 x180 true)), (49, (.var [.cell (.int .i64 x167)])), (50, (.var [.cell (.int .i64 x182)])), (51, (.gr (.int .i64) 3 y0 true))]⟩
def f72_p20_17_P (x3 : Int) (x1 : List Int) (x134 x137 : Int) (x187 : List Int) (x182 x136 : Int) (x167 x188 : Int) (x2 x135 : List Int) (x133 : List (List Int)) (x179 x180 : List Int) (r : (List Int)) : Prop := Ex cx f72_M 178 (part Try.f72 20) (f72_p20_17_H x3 x1 x134 x137 x187 x182 x136 x167 x188 x2 x135 x133 x179 x180) (f72_p20_17_x r) (f72_p20_17_s x3 x1 x134 x137 x187 x182 x136 x167 x188 x2 x135 x133 x179 x180 r)
noncomputable def f72_p13_5_H (x3 : Int) (x1 : List Int) (x134 x137 : Int) (x136 x167 : Int) (x2 x135 : List Int) (x133 : List (List Int)) (x179 x180 : List Int) (x182 : Int) (x181 : List Int) : GS := ⟨[(1, (GI x3)), (2, (.r (.at (.ptr 42 0 0)))), (6, (.r (.at (.ptr 44 0 0)))), (8, (.r (.at (.sl 45 0 (Int.toNat ((List.length x1 : Nat) : Int)))))), (9, (GI x134)), (10, (.r (.at (.ptr 46 0 0)))), (11, (GI x137)), (12, (.r (.at (.sl 47 0 (Int.toNat (w64 (x3 + 1))))))), (13, (.r (.at (.sl 48 0 (Int.toNat (w64 (x3 + 1))))))), (14, (.r (.at (.ptr 49 0 0)))), (15, (.r (.at (.sl 51 0 (List.length x181))))), (16, (.r (.at (.ptr 50 0 0)))), (67, (.r (.at (.int .i64 (if (w64 (x3 + 1)) < x136 then (w64 (x3 + 1)) else x136))))), (68, (GI x167))], [(42, (.var [.cell (.lst (.int .i64) x1 false), .cell (.lst (.int .i64) x2 false)])), (44, (.var [.cell (.lst (.int .i64) x135 false)])), (45, (.gr (.list (.int .i64)) 23 x133 true)), (46, (.var [.cell (.int .i64 x136)])), (47, (.gr (.int .i64) 3 x179 true)), (48, (.gr (.int .i64) 3 x180 true)), (49, (.var [.cell (.int .i64 x167)])), (50, (.var [.cell (.int .i64 x182)])), (51, (.gr (.int .i64) 3 x181 true))]⟩
noncomputable def f72_p13_5_x : ((List Int) × (List Int)) → GExit := fun (y0, y1) => (.exit 6)
noncomputable def f72_p13_5_s (x3 : Int) (x1 : List Int) (x134 x137 : Int) (x136 x167 : Int) (x2 x135 : List Int) (x133 : List (List Int)) : ((List Int) × (List Int)) → GS := fun (y0, y1) => ⟨[(1, (GI x3)), (2, (.r (.at (.ptr 42 0 0)))), (6, (.r (.at (.ptr 44 0 0)))), (8, (.r (.at (.sl 45 0 (Int.toNat ((List.length x1 : Nat) : Int)))))), (9, (GI x134)), (10, (.r (.at (.ptr 46 0 0)))), (11, (GI x137)), (12, (.r (.at (.sl 47 0 (Int.toNat (w64 (x3 + 1))))))), (13, (.r (.at (.sl 48 0 (Int.toNat (w64 (x3 + 1))))))), (67, (.r (.at (.int .i64 (if (w64 (x3 + 1)) < x136 then (w64 (x3 + 1)) else x136))))), (68, (GI x167))], [(42, (.var [.cell (.lst (.int .i64) x1 false), .cell (.lst (.int .i64) x2 false)])), (44, (.var [.cell (.lst (.int .i64) x135 false)])), (45, (.gr (.list (.int .i64)) 23 x133 true)), (46, (.var [.cell (.int .i64 x136)])), (47, (.gr (.int .i64) 3 y0 true)), (48, (.gr (.int .i64) 3 y1 true))]⟩
def f72_p13_5_P (x3 : Int) (x1 : List Int) (x134 x137 : Int) (x136 x167 : Int) (x2 x135 : List Int) (x133 : List (List Int)) (x179 x180 : List Int) (x182 : Int) (x181 : List Int) (r : (List Int) × (List Int)) : Prop := Lp cx f72_M 178 (part Try.f72 13) (f72_p13_5_H x3 x1 x134 x137 x136 x167 x2 x135 x133 x179 x180 x182 x181) (f72_p13_5_x r) (f72_p13_5_s x3 x1 x134 x137 x136 x167 x2 x135 x133 r)
noncomputable def f72_p9_2_H (x3 : Int) (x1 : List Int) (x134 x137 x136 : Int) (x2 x135 : List Int) (x133 : List (List Int)) (x167 : Int) (x165 x166 : List Int) : GS := ⟨[(1, (GI x3)), (2, (.r (.at (.ptr 42 0 0)))), (6, (.r (.at (.ptr 44 0 0)))), (8, (.r (.at (.sl 45 0 (Int.toNat ((List.length x1 : Nat) : Int)))))), (9, (GI x134)), (10, (.r (.at (.ptr 46 0 0)))), (11, (GI x137)), (12, (.r (.at (.sl 47 0 (Int.toNat (w64 (x3 + 1))))))), (13, (.r (.at (.sl 48 0 (Int.toNat (w64 (x3 + 1))))))), (67, (.r (.at (.int .i64 (if (w64 (x3 + 1)) < x136 then (w64 (x3 + 1)) else x136))))), (68, (GI x167))], [(42, (.var [.cell (.lst (.int .i64) x1 false), .cell (.lst (.int .i64) x2 false)])), (44, (.var [.cell (.lst (.int .i64) x135 false)])), (45, (.gr (.list (.int .i64)) 23 x133 true)), (46, (.var [.cell (.int .i64 x136)])), (47, (.gr (.int .i64) 3 x165 true)), (48, (.gr (.int .i64) 3 x166 true))]⟩
noncomputable def f72_p9_2_x : ((List Int) × (List Int)) → GExit := fun (y0, y1) => (.exit 4)
noncomputable def f72_p9_2_s (x3 : Int) (x1 : List Int) (x134 x137 x136 : Int) (x2 x135 : List Int) (x133 : List (List Int)) : ((List Int) × (List Int)) → GS := fun (y0, y1) => ⟨[(1, (GI x3)), (2, (.r (.at (.ptr 42 0 0)))), (6, (.r (.at (.ptr 44 0 0)))), (8, (.r (.at (.sl 45 0 (Int.toNat ((List.length x1 : Nat) : Int)))))), (9, (GI x134)), (12, (.r (.at (.sl 47 0 (Int.toNat (w64 (x3 + 1))))))), (13, (.r (.at (.sl 48 0 (Int.toNat (w64 (x3 + 1)))))))], [(42, (.var [.cell (.lst (.int .i64) x1 false), .cell (.lst (.int .i64) x2 false)])), (44, (.var [.cell (.lst (.int .i64) x135 false)])), (45, (.gr (.list (.int .i64)) 23 x133 true)), (47, (.gr (.int .i64) 3 y0 true)), (48, (.gr (.int .i64) 3 y1 true))]⟩
def f72_p9_2_P (x3 : Int) (x1 : List Int) (x134 x137 x136 : Int) (x2 x135 : List Int) (x133 : List (List Int)) (x167 : Int) (x165 x166 : List Int) (r : (List Int) × (List Int)) : Prop := Lp cx f72_M 178 (part Try.f72 9) (f72_p9_2_H x3 x1 x134 x137 x136 x2 x135 x133 x167 x165 x166) (f72_p9_2_x r) (f72_p9_2_s x3 x1 x134 x137 x136 x2 x135 x133 r)
noncomputable def f72_p5_H (x3 : Int) (x1 x2 : List Int) (x134 : Int) (x135 : List Int) (x133 : List (List Int)) : GS := ⟨[(1, (GI x3)), (2, (.r (.at (.ptr 42 0 0)))), (6, (.r (.at (.ptr 44 0 0)))), (8, (.r (.at (.sl 45 0 (Int.toNat ((List.length x1 : Nat) : Int)))))), (9, (GI x134))], [(42, (.var [.cell (.lst (.int .i64) x1 false), .cell (.lst (.int .i64) x2 false)])), (44, (.var [.cell (.lst (.int .i64) x135 false)])), (45, (.gr (.list (.int .i64)) 23 x133 true))]⟩
noncomputable def f72_p5_x : ((List Int) × (List (List Int))) → GExit := fun (y0, y1) => (.exit 2)
noncomputable def f72_p5_s (x3 : Int) (x1 x2 : List Int) : ((List Int) × (List (List Int))) → GS := fun (y0, y1) => ⟨[(1, (GI x3)), (2, (.r (.at (.ptr 42 0 0)))), (6, (.r (.at (.ptr 44 0 0)))), (8, (.r (.at (.sl 45 0 (Int.toNat ((List.length x1 : Nat) : Int))))))], [(42, (.var [.cell (.lst (.int .i64) x1 false), .cell (.lst (.int .i64) x2 false)])), (44, (.var [.cell (.lst (.int .i64) y0 false)])), (45, (.gr (.list (.int .i64)) 23 y1 true))]⟩
def f72_p5_P (x3 : Int) (x1 x2 : List Int) (x134 : Int) (x135 : List Int) (x133 : List (List Int)) (r : (List Int) × (List (List Int))) : Prop := Lp cx f72_M 178 (part Try.f72 5) (f72_p5_H x3 x1 x2 x134 x135 x133) (f72_p5_x r) (f72_p5_s x3 x1 x2 r)
noncomputable def f72_p23_H (x1 x2 : List Int) (x197 : List (List Int)) (x205 x206 : Int) (x204 : List Int) : GS := ⟨[(1, (GI x205)), (2, (.r (.at (.ptr 42 0 0)))), (19, (.r (.at (.sl 52 0 (List.length x204))))), (150, (.r (.at (.sl 45 0 (Int.toNat ((List.length x1 : Nat) : Int)))))), (151, (.r (.at (.int .i64 (((Int.toNat ((List.length x1 : Nat) : Int)) : Nat) : Int))))), (152, (GI x206))], [(42, (.var [.cell (.lst (.int .i64) x1 false), .cell (.lst (.int .i64) x2 false)])), (45, (.gr (.list (.int .i64)) 23 x197 true)), (52, (.gr (.int .i64) 3 x204 true))]⟩
noncomputable def f72_p23_x : (List Int) → GExit := fun y0 => (.exit 10)
noncomputable def f72_p23_s (x1 x2 : List Int) (x197 : List (List Int)) : (List Int) → GS := fun y0 => ⟨[(19, (.r (.at (.sl 52 0 (List.length y0)))))], [(52, (.gr (.int .i64) 3 y0 true))]⟩
def f72_p23_P (x1 x2 : List Int) (x197 : List (List Int)) (x205 x206 : Int) (x204 : List Int) (r : (List Int)) : Prop := Lp cx f72_M 178 (part Try.f72 23) (f72_p23_H x1 x2 x197 x205 x206 x204) (f72_p23_x r) (f72_p23_s x1 x2 x197 r)
noncomputable def f72_v : ((List Int) × Int) → G := fun (y0, y1) => (.tup [(.at (.lst (.int .i64) y0 false)), (.at (.int .i64 y1))])
noncomputable def f72_k0 : ((List Int) × Int) → List (Nat × Blk) := fun (y0, y1) => []
noncomputable def f72_k (x1 x2 : List Int) (x3 : Int) : ((List Int) × Int) → List (Nat × Blk) := fun (y0, y1) => []
noncomputable def f72_A (x1 x2 : List Int) (x3 : Int) : List G := [(.r (.agg [.cell (.lst (.int .i64) x1 false), .cell (.lst (.int .i64) x2 false)])), (GI x3)]
noncomputable def f72_K (x1 x2 : List Int) (x3 : Int) : List (Nat × Blk) := []
def f72_C (x1 x2 : List Int) (x3 : Int) (r : (List Int) × Int) : Prop := CallOK cx 72 (f72_A x1 x2 x3) (f72_K x1 x2 x3) [] (f72_v r) (f72_k x1 x2 x3 r)

def f65_M : List Nat := [41]
noncomputable def f65_v : ((List Int) × Int) → G := fun (y0, y1) => (.tup [(.at (.lst (.int .i64) y0 false)), (.at (.int .i64 y1))])
noncomputable def f65_k0 : ((List Int) × Int) → List (Nat × Blk) := fun (y0, y1) => []
noncomputable def f65_k (x1 x2 : List Int) (x3 : Int) : ((List Int) × Int) → List (Nat × Blk) := fun (y0, y1) => []
noncomputable def f65_A (x1 x2 : List Int) (x3 : Int) : List G := [(GL x1), (GL x2), (GI x3)]
noncomputable def f65_K (x1 x2 : List Int) (x3 : Int) : List (Nat × Blk) := []
def f65_C (x1 x2 : List Int) (x3 : Int) (r : (List Int) × Int) : Prop := CallOK cx 65 (f65_A x1 x2 x3) (f65_K x1 x2 x3) [] (f65_v r) (f65_k x1 x2 x3 r)

def f81_M : List Nat := []
noncomputable def f81_v : Bool → G := fun y0 => (GB y0)
noncomputable def f81_k0 : Bool → List (Nat × Blk) := fun y0 => []
noncomputable def f81_k (x1 x2 x3 : Int) : Bool → List (Nat × Blk) := fun y0 => []
noncomputable def f81_A (x1 x2 x3 : Int) : List G := [(GI x1), (GI x2), (GI x3)]
noncomputable def f81_K (x1 x2 x3 : Int) : List (Nat × Blk) := []
def f81_C (x1 x2 x3 : Int) (r : Bool) : Prop := CallOK cx 81 (f81_A x1 x2 x3) (f81_K x1 x2 x3) [] (f81_v r) (f81_k x1 x2 x3 r)

def f80_M : List Nat := []
noncomputable def f80_v : Bool → G := fun y0 => (GB y0)
noncomputable def f80_k0 : Bool → List (Nat × Blk) := fun y0 => []
noncomputable def f80_k (x1 x2 : Int) : Bool → List (Nat × Blk) := fun y0 => [(53, (.var [.cell (.int .i64 x2)]))]
noncomputable def f80_A (x1 x2 : Int) : List G := [(GI x1), (.r (.at (.ptr 53 0 0)))]
noncomputable def f80_K (x1 x2 : Int) : List (Nat × Blk) := [(53, (.var [.cell (.int .i64 x2)]))]
def f80_C (x1 x2 : Int) (r : Bool) : Prop := CallOK cx 80 (f80_A x1 x2) (f80_K x1 x2) [] (f80_v r) (f80_k x1 x2 r)

def f68_1_M : List Nat := []
noncomputable def f68_1_p1_H (x1 : List Int) (x2 x3 : Int) : GS := ⟨[(0, (GL x1)), (1, (.r (.at (.app2 (.fn 80) (.ptr 53 0 0))))), (7, (.r (.at (.int .i64 ((List.length x1 : Nat) : Int))))), (8, (GI x3))], [(53, (.var [.cell (.int .i64 x2)]))]⟩
noncomputable def f68_1_p1_x : f68_1_p1_R → GExit := fun
  | .c0 y0 => .ret
  | .c1 => (.exit 0)
noncomputable def f68_1_p1_s (x1 : List Int) (x2 : Int) : f68_1_p1_R → GS := fun
  | .c0 y0 => ⟨[(4, (GI y0))], [(53, (.var [.cell (.int .i64 x2)]))]⟩
  | .c1 => ⟨[], [(53, (.var [.cell (.int .i64 x2)]))]⟩
def f68_1_p1_P (x1 : List Int) (x2 x3 : Int) (r : f68_1_p1_R) : Prop := Lp cx f68_1_M 19 (part Try.f68 1) (f68_1_p1_H x1 x2 x3) (f68_1_p1_x r) (f68_1_p1_s x1 x2 r)
noncomputable def f68_1_v : Int → G := fun y0 => (GI y0)
noncomputable def f68_1_k0 : Int → List (Nat × Blk) := fun y0 => []
noncomputable def f68_1_k (x1 : List Int) (x2 : Int) : Int → List (Nat × Blk) := fun y0 => [(53, (.var [.cell (.int .i64 x2)]))]
noncomputable def f68_1_A (x1 : List Int) (x2 : Int) : List G := [(GL x1), (.r (.at (.app2 (.fn 80) (.ptr 53 0 0))))]
noncomputable def f68_1_K (x1 : List Int) (x2 : Int) : List (Nat × Blk) := [(53, (.var [.cell (.int .i64 x2)]))]
def f68_1_C (x1 : List Int) (x2 : Int) (r : Int) : Prop := CallOK cx 68 (f68_1_A x1 x2) (f68_1_K x1 x2) [] (f68_1_v r) (f68_1_k x1 x2 r)

def f60_1_M : List Nat := []
noncomputable def f60_1_v : Bool → G := fun y0 => (GB y0)
noncomputable def f60_1_k0 : Bool → List (Nat × Blk) := fun y0 => []
noncomputable def f60_1_k (x1 : List Int) (x2 : Int) : Bool → List (Nat × Blk) := fun y0 => [(53, (.var [.cell (.int .i64 x2)]))]
noncomputable def f60_1_A (x1 : List Int) (x2 : Int) : List G := [(GL x1), (.r (.at (.app2 (.fn 80) (.ptr 53 0 0))))]
noncomputable def f60_1_K (x1 : List Int) (x2 : Int) : List (Nat × Blk) := [(53, (.var [.cell (.int .i64 x2)]))]
def f60_1_C (x1 : List Int) (x2 : Int) (r : Bool) : Prop := CallOK cx 60 (f60_1_A x1 x2) (f60_1_K x1 x2) [] (f60_1_v r) (f60_1_k x1 x2 r)

def f73_M : List Nat := [53]
noncomputable def f73_p5_H (x1 : List Int) (x5 x6 : Int) : GS := ⟨[(0, (GL x1)), (3, (.r (.at (.ptr 53 0 0)))), (19, (GL x1)), (20, (.r (.at (.int .i64 ((List.length x1 : Nat) : Int))))), (21, (GI x5))], [(53, (.var [.cell (.int .i64 x6)]))]⟩
noncomputable def f73_p5_x : Int → GExit := fun y0 => (.exit 1)
noncomputable def f73_p5_s (x1 : List Int) : Int → GS := fun y0 => ⟨[(0, (GL x1)), (3, (.r (.at (.ptr 53 0 0))))], [(53, (.var [.cell (.int .i64 y0)]))]⟩
def f73_p5_P (x1 : List Int) (x5 x6 : Int) (r : Int) : Prop := Lp cx f73_M 40 (part Try.f73 5) (f73_p5_H x1 x5 x6) (f73_p5_x r) (f73_p5_s x1 r)
noncomputable def f73_v : Int → G := fun y0 => (GI y0)
noncomputable def f73_k0 : Int → List (Nat × Blk) := fun y0 => []
noncomputable def f73_k (x1 : List Int) : Int → List (Nat × Blk) := fun y0 => []
noncomputable def f73_A (x1 : List Int) : List G := [(GL x1)]
noncomputable def f73_K (x1 : List Int) : List (Nat × Blk) := []
def f73_C (x1 : List Int) (r : Int) : Prop := CallOK cx 73 (f73_A x1) (f73_K x1) [] (f73_v r) (f73_k x1 r)

def f82_M : List Nat := []
noncomputable def f82_v : Int → G := fun y0 => (GI y0)
noncomputable def f82_k0 : Int → List (Nat × Blk) := fun y0 => []
noncomputable def f82_k (x1 : Int) : Int → List (Nat × Blk) := fun y0 => []
noncomputable def f82_A (x1 : Int) : List G := [(.r (.at (.int .u8 x1)))]
noncomputable def f82_K (x1 : Int) : List (Nat × Blk) := []
def f82_C (x1 : Int) (r : Int) : Prop := CallOK cx 82 (f82_A x1) (f82_K x1) [] (f82_v r) (f82_k x1 r)

def f75_M : List Nat := [54]
noncomputable def f75_p1_H (x5 : Int) (x4 : List Int) : GS := ⟨[(0, (.r (.at (.int .u8 x5)))), (3, (.r (.at (.sl 54 0 (List.length x4)))))], [(54, (.gr (.int .i64) 3 x4 true))]⟩
noncomputable def f75_p1_x : (List Int) → GExit := fun y0 => (.exit 0)
noncomputable def f75_p1_s : (List Int) → GS := fun y0 => ⟨[(3, (.r (.at (.sl 54 0 (List.length y0)))))], [(54, (.gr (.int .i64) 3 y0 true))]⟩
def f75_p1_P (x5 : Int) (x4 : List Int) (r : (List Int)) : Prop := Lp cx f75_M 16 (part Try.f75 1) (f75_p1_H x5 x4) (f75_p1_x r) (f75_p1_s r)
noncomputable def f75_v : (List Int) → G := fun y0 => (GL y0)
noncomputable def f75_k0 : (List Int) → List (Nat × Blk) := fun y0 => []
noncomputable def f75_k (x1 : Int) : (List Int) → List (Nat × Blk) := fun y0 => []
noncomputable def f75_A (x1 : Int) : List G := [(.r (.at (.int .u8 x1)))]
noncomputable def f75_K (x1 : Int) : List (Nat × Blk) := []
def f75_C (x1 : Int) (r : (List Int)) : Prop := CallOK cx 75 (f75_A x1) (f75_K x1) [] (f75_v r) (f75_k x1 r)

def f74_M : List Nat := []
noncomputable def f74_p1_H (x1 x3 : List Int) (x4 x5 : Int) : GS := ⟨[(0, (GL x1)), (6, (GI x4)), (18, (GL x3)), (19, (.r (.at (.int .i64 ((List.length x3 : Nat) : Int))))), (20, (GI x5))], []⟩
noncomputable def f74_p1_x : Int → GExit := fun y0 => (.exit 0)
noncomputable def f74_p1_s (x1 x3 : List Int) : Int → GS := fun y0 => ⟨[(6, (GI y0))], []⟩
def f74_p1_P (x1 x3 : List Int) (x4 x5 : Int) (r : Int) : Prop := Lp cx f74_M 32 (part Try.f74 1) (f74_p1_H x1 x3 x4 x5) (f74_p1_x r) (f74_p1_s x1 x3 r)
noncomputable def f74_v : Int → G := fun y0 => (GI y0)
noncomputable def f74_k0 : Int → List (Nat × Blk) := fun y0 => []
noncomputable def f74_k (x1 : List Int) (x2 : Int) : Int → List (Nat × Blk) := fun y0 => []
noncomputable def f74_A (x1 : List Int) (x2 : Int) : List G := [(GL x1), (.r (.at (.int .u8 x2)))]
noncomputable def f74_K (x1 : List Int) (x2 : Int) : List (Nat × Blk) := []
def f74_C (x1 : List Int) (x2 : Int) (r : Int) : Prop := CallOK cx 74 (f74_A x1 x2) (f74_K x1 x2) [] (f74_v r) (f74_k x1 x2 r)

def f83_M : List Nat := []
noncomputable def f83_v : Int → G := fun y0 => (GI y0)
noncomputable def f83_k0 : Int → List (Nat × Blk) := fun y0 => []
noncomputable def f83_k (x1 x2 : Int) : Int → List (Nat × Blk) := fun y0 => []
noncomputable def f83_A (x1 x2 : Int) : List G := [(GI x1), (GI x2)]
noncomputable def f83_K (x1 x2 : Int) : List (Nat × Blk) := []
def f83_C (x1 x2 : Int) (r : Int) : Prop := CallOK cx 83 (f83_A x1 x2) (f83_K x1 x2) [] (f83_v r) (f83_k x1 x2 r)

def f76_M : List Nat := []
noncomputable def f76_p1_H (x1 : List Int) (x2 : Option (List Int)) (x3 : Int) : GS := ⟨[(0, (GL x1)), (1, (.r (.at (.olst (.int .i64) x2)))), (9, (GL x1)), (10, (.r (.at (.int .i64 ((List.length x1 : Nat) : Int))))), (11, (GI x3))], []⟩
noncomputable def f76_p1_x : f76_p1_R → GExit := fun
  | .c0 y0 => .ret
  | .c1 => (.exit 0)
noncomputable def f76_p1_s (x1 : List Int) (x2 : Option (List Int)) : f76_p1_R → GS := fun
  | .c0 y0 => ⟨[(4, (GI y0))], []⟩
  | .c1 => ⟨[(0, (GL x1)), (1, (.r (.at (.olst (.int .i64) x2))))], []⟩
def f76_p1_P (x1 : List Int) (x2 : Option (List Int)) (x3 : Int) (r : f76_p1_R) : Prop := Lp cx f76_M 36 (part Try.f76 1) (f76_p1_H x1 x2 x3) (f76_p1_x r) (f76_p1_s x1 x2 r)
noncomputable def f76_v : Int → G := fun y0 => (GI y0)
noncomputable def f76_k0 : Int → List (Nat × Blk) := fun y0 => []
noncomputable def f76_k (x1 : List Int) (x2 : Option (List Int)) : Int → List (Nat × Blk) := fun y0 => []
noncomputable def f76_A (x1 : List Int) (x2 : Option (List Int)) : List G := [(GL x1), (.r (.at (.olst (.int .i64) x2)))]
noncomputable def f76_K (x1 : List Int) (x2 : Option (List Int)) : List (Nat × Blk) := []
def f76_C (x1 : List Int) (x2 : Option (List Int)) (r : Int) : Prop := CallOK cx 76 (f76_A x1 x2) (f76_K x1 x2) [] (f76_v r) (f76_k x1 x2 r)

def f66_M : List Nat := []
noncomputable def f66_p6_H (x1 : List Int) (x3 : Option (List Int)) (x4 : Int) (x6 : List Int) (x7 : Int) : GS := ⟨[(0, (GL x1)), (5, (.r (.at (.olst (.int .i64) x3)))), (6, (.r (.at (.int .u8 x4)))), (7, (GL x6)), (47, (.r (.at (.bool (decide (x7 < 0))))))], []⟩
noncomputable def f66_p6_x : (Option (List Int)) → GExit := fun y0 => .normal
noncomputable def f66_p6_s (x1 : List Int) (x3 : Option (List Int)) (x4 : Int) (x6 : List Int) (x7 : Int) : (Option (List Int)) → GS := fun y0 => ⟨[(0, (GL x1)), (5, (.r (.at (.olst (.int .i64) y0)))), (6, (.r (.at (.int .u8 x4))))], []⟩
def f66_p6_P (x1 : List Int) (x3 : Option (List Int)) (x4 : Int) (x6 : List Int) (x7 : Int) (r : (Option (List Int))) : Prop := Ex cx f66_M 52 (part Try.f66 6) (f66_p6_H x1 x3 x4 x6 x7) (f66_p6_x r) (f66_p6_s x1 x3 x4 x6 x7 r)
noncomputable def f66_p2_H (x1 : List Int) (x3 : Option (List Int)) (x4 : Int) : GS := ⟨[(0, (GL x1)), (5, (.r (.at (.olst (.int .i64) x3)))), (6, (.r (.at (.int .u8 x4))))], []⟩
noncomputable def f66_p2_x : (Option (List Int)) → GExit := fun y0 => (.exit 0)
noncomputable def f66_p2_s (x1 : List Int) : (Option (List Int)) → GS := fun y0 => ⟨[(5, (.r (.at (.olst (.int .i64) y0))))], []⟩
def f66_p2_P (x1 : List Int) (x3 : Option (List Int)) (x4 : Int) (r : (Option (List Int))) : Prop := Lp cx f66_M 52 (part Try.f66 2) (f66_p2_H x1 x3 x4) (f66_p2_x r) (f66_p2_s x1 r)
noncomputable def f66_v : ((List Int) × Int) → G := fun (y0, y1) => (.tup [(.at (.lst (.int .i64) y0 false)), (.at (.int .i64 y1))])
noncomputable def f66_k0 : ((List Int) × Int) → List (Nat × Blk) := fun (y0, y1) => []
noncomputable def f66_k (x1 : List Int) : ((List Int) × Int) → List (Nat × Blk) := fun (y0, y1) => []
noncomputable def f66_A (x1 : List Int) : List G := [(GL x1)]
noncomputable def f66_K (x1 : List Int) : List (Nat × Blk) := []
def f66_C (x1 : List Int) (r : (List Int) × Int) : Prop := CallOK cx 66 (f66_A x1) (f66_K x1) [] (f66_v r) (f66_k x1 r)

def f53_M : List Nat := []
noncomputable def f53_v : Bool → G := fun y0 => (GB y0)
noncomputable def f53_k0 : Bool → List (Nat × Blk) := fun y0 => []
noncomputable def f53_k : Bool → List (Nat × Blk) := fun y0 => []
noncomputable def f53_A : List G := []
noncomputable def f53_K : List (Nat × Blk) := []
def f53_C (r : Bool) : Prop := CallOK cx 53 (f53_A) (f53_K) [] (f53_v r) (f53_k r)

def f33_M : List Nat := []
noncomputable def f33_v : Bool → G := fun y0 => (GB y0)
noncomputable def f33_k0 : Bool → List (Nat × Blk) := fun y0 => []
noncomputable def f33_k : Bool → List (Nat × Blk) := fun y0 => []
noncomputable def f33_A : List G := []
noncomputable def f33_K : List (Nat × Blk) := []
def f33_C (r : Bool) : Prop := CallOK cx 33 (f33_A) (f33_K) [] (f33_v r) (f33_k r)

def f12_M : List Nat := []
noncomputable def f12_v : Bool → G := fun y0 => (GB y0)
noncomputable def f12_k0 : Bool → List (Nat × Blk) := fun y0 => []
noncomputable def f12_k : Bool → List (Nat × Blk) := fun y0 => []
noncomputable def f12_A : List G := []
noncomputable def f12_K : List (Nat × Blk) := []
def f12_C (r : Bool) : Prop := CallOK cx 12 (f12_A) (f12_K) [] (f12_v r) (f12_k r)

def f3_M : List Nat := [1, 2, 3, 4, 17, 18]
noncomputable def f3_p1_H (x1 : Int) (x2 x3 : List Int) (x13 : Int) (x11 x12 : List Int) : GS := ⟨[(4, (.r (.at (.ptr 1 0 0)))), (5, (.r (.at (.ptr 2 0 0)))), (7, (.r (.at (.int .i64 (w64 (1 + (Int.tmod (w64 (x1)) 5))))))), (8, (.r (.at (.sl 3 0 (List.length x11))))), (9, (.r (.at (.sl 4 0 (List.length x12))))), (34, (.r (.at (.int .i64 (w64 (1 + (Int.tmod (w64 (x1)) 5))))))), (35, (GI x13))], [(1, (.var [.arr (.int .u8) 5 x2])), (2, (.var [.arr (.int .u8) 5 x3])), (3, (.gr (.int .i64) 3 x11 true)), (4, (.gr (.int .i64) 3 x12 true))]⟩
noncomputable def f3_p1_x : ((List Int) × (List Int)) → GExit := fun (y0, y1) => (.exit 0)
noncomputable def f3_p1_s (x1 : Int) (x2 x3 : List Int) : ((List Int) × (List Int)) → GS := fun (y0, y1) => ⟨[(7, (.r (.at (.int .i64 (w64 (1 + (Int.tmod (w64 (x1)) 5))))))), (8, (.r (.at (.sl 3 0 (List.length y0))))), (9, (.r (.at (.sl 4 0 (List.length y1)))))], [(3, (.gr (.int .i64) 3 y0 true)), (4, (.gr (.int .i64) 3 y1 true))]⟩
def f3_p1_P (x1 : Int) (x2 x3 : List Int) (x13 : Int) (x11 x12 : List Int) (r : (List Int) × (List Int)) : Prop := Lp cx f3_M 195 (part Try.f3 1) (f3_p1_H x1 x2 x3 x13 x11 x12) (f3_p1_x r) (f3_p1_s x1 x2 x3 r)
noncomputable def f3_p9_1_H (x1 : Int) (x16 x17 : List Int) (x38 : List (List Int)) (x40 x39 x50 : Int) (x49 : List Int) : GS := ⟨[(7, (.r (.at (.int .i64 (w64 (1 + (Int.tmod (w64 (x1)) 5))))))), (8, (.r (.at (.sl 3 0 (List.length x16))))), (9, (.r (.at (.sl 4 0 (List.length x17))))), (11, (.r (.at (.sl 18 0 (List.length x38))))), (13, (GI x40)), (14, (.r (.at (.sl 17 0 (List.length x49))))), (55, (.r (.at (.sl 3 0 (List.length x16))))), (56, (.r (.at (.int .i64 (((List.length x16) : Nat) : Int))))), (57, (GI x39)), (61, (.r (.at (.sl 4 0 (List.length x17))))), (62, (.r (.at (.int .i64 (((List.length x17) : Nat) : Int))))), (63, (GI x50))], [(3, (.gr (.int .i64) 3 x16 true)), (4, (.gr (.int .i64) 3 x17 true)), (17, (.gr (.int .i64) 3 x49 true)), (18, (.gr (.list (.int .i64)) 23 x38 true))]⟩
noncomputable def f3_p9_1_x : f3_p9_1_R → GExit := fun
  | .c0 => .ret
  | .c1 y0 => (.exit 4)
noncomputable def f3_p9_1_s (x1 : Int) (x16 x17 : List Int) (x38 : List (List Int)) (x40 x39 : Int) : f3_p9_1_R → GS := fun
  | .c0 => ⟨[(6, (.r (.at (.bool false))))], []⟩
  | .c1 y0 => ⟨[(7, (.r (.at (.int .i64 (w64 (1 + (Int.tmod (w64 (x1)) 5))))))), (8, (.r (.at (.sl 3 0 (List.length x16))))), (9, (.r (.at (.sl 4 0 (List.length x17))))), (11, (.r (.at (.sl 18 0 (List.length x38))))), (14, (.r (.at (.sl 17 0 (List.length y0))))), (55, (.r (.at (.sl 3 0 (List.length x16))))), (56, (.r (.at (.int .i64 (((List.length x16) : Nat) : Int))))), (57, (GI x39))], [(3, (.gr (.int .i64) 3 x16 true)), (4, (.gr (.int .i64) 3 x17 true)), (17, (.gr (.int .i64) 3 y0 true)), (18, (.gr (.list (.int .i64)) 23 x38 true))]⟩
def f3_p9_1_P (x1 : Int) (x16 x17 : List Int) (x38 : List (List Int)) (x40 x39 x50 : Int) (x49 : List Int) (r : f3_p9_1_R) : Prop := Lp cx f3_M 195 (part Try.f3 9) (f3_p9_1_H x1 x16 x17 x38 x40 x39 x50 x49) (f3_p9_1_x r) (f3_p9_1_s x1 x16 x17 x38 x40 x39 r)
noncomputable def f3_p5_H (x1 : Int) (x16 x17 : List Int) (x39 : Int) (x38 : List (List Int)) : GS := ⟨[(7, (.r (.at (.int .i64 (w64 (1 + (Int.tmod (w64 (x1)) 5))))))), (8, (.r (.at (.sl 3 0 (List.length x16))))), (9, (.r (.at (.sl 4 0 (List.length x17))))), (11, (.r (.at (.sl 18 0 (List.length x38))))), (55, (.r (.at (.sl 3 0 (List.length x16))))), (56, (.r (.at (.int .i64 (((List.length x16) : Nat) : Int))))), (57, (GI x39))], [(3, (.gr (.int .i64) 3 x16 true)), (4, (.gr (.int .i64) 3 x17 true)), (18, (.gr (.list (.int .i64)) 23 x38 true))]⟩
noncomputable def f3_p5_x : f3_p5_R → GExit := fun
  | .c0 => .ret
  | .c1 y0 => (.exit 2)
noncomputable def f3_p5_s (x1 : Int) (x16 x17 : List Int) : f3_p5_R → GS := fun
  | .c0 => ⟨[(6, (.r (.at (.bool false))))], []⟩
  | .c1 y0 => ⟨[(7, (.r (.at (.int .i64 (w64 (1 + (Int.tmod (w64 (x1)) 5))))))), (8, (.r (.at (.sl 3 0 (List.length x16))))), (9, (.r (.at (.sl 4 0 (List.length x17))))), (11, (.r (.at (.sl 18 0 (List.length y0)))))], [(3, (.gr (.int .i64) 3 x16 true)), (4, (.gr (.int .i64) 3 x17 true)), (18, (.gr (.list (.int .i64)) 23 y0 true))]⟩
def f3_p5_P (x1 : Int) (x16 x17 : List Int) (x39 : Int) (x38 : List (List Int)) (r : f3_p5_R) : Prop := Lp cx f3_M 195 (part Try.f3 5) (f3_p5_H x1 x16 x17 x39 x38) (f3_p5_x r) (f3_p5_s x1 x16 x17 r)
noncomputable def f3_p15_H (x16 x17 : List Int) (x59 : List (List Int)) (x60 : List Int) (x62 x1 : Int) (x65 x66 : List Int) (x67 x68 : Int) : GS := ⟨[(8, (.r (.at (.sl 3 0 (List.length x16))))), (9, (.r (.at (.sl 4 0 (List.length x17))))), (11, (.r (.at (.lst (.list (.int .i64)) ((List.drop 0 (List.take (0 + (List.length x59)) x59)) : List (List Int)) false)))), (23, (GL x60)), (25, (GI x62)), (27, (GI x67)), (146, (.r (.at (.int .i64 (w64 (1 + (Int.tmod (w64 (x1)) 5))))))), (147, (GI x68))], [(3, (.gr (.int .i64) 3 x65 true)), (4, (.gr (.int .i64) 3 x66 true))]⟩
noncomputable def f3_p15_x : Int → GExit := fun y0 => (.exit 6)
noncomputable def f3_p15_s (x16 x17 : List Int) (x59 : List (List Int)) (x60 : List Int) (x62 x1 : Int) (x65 x66 : List Int) : Int → GS := fun y0 => ⟨[(11, (.r (.at (.lst (.list (.int .i64)) ((List.drop 0 (List.take (0 + (List.length x59)) x59)) : List (List Int)) false)))), (23, (GL x60)), (25, (GI x62)), (27, (GI y0))], []⟩
def f3_p15_P (x16 x17 : List Int) (x59 : List (List Int)) (x60 : List Int) (x62 x1 : Int) (x65 x66 : List Int) (x67 x68 : Int) (r : Int) : Prop := Lp cx f3_M 195 (part Try.f3 15) (f3_p15_H x16 x17 x59 x60 x62 x1 x65 x66 x67 x68) (f3_p15_x r) (f3_p15_s x16 x17 x59 x60 x62 x1 x65 x66 r)
noncomputable def f3_v : Bool → G := fun y0 => (GB y0)
noncomputable def f3_k0 : Bool → List (Nat × Blk) := fun y0 => []
noncomputable def f3_k (x1 : Int) (x2 x3 : List Int) : Bool → List (Nat × Blk) := fun y0 => []
noncomputable def f3_A (x1 : Int) (x2 x3 : List Int) : List G := [(.r (.at (.int .u8 x1))), (.r (.agg [.arr (.int .u8) 5 x2])), (.r (.agg [.arr (.int .u8) 5 x3]))]
noncomputable def f3_K (x1 : Int) (x2 x3 : List Int) : List (Nat × Blk) := []
def f3_C (x1 : Int) (x2 x3 : List Int) (r : Bool) : Prop := CallOK cx 3 (f3_A x1 x2 x3) (f3_K x1 x2 x3) [] (f3_v r) (f3_k x1 x2 x3 r)

end Go.Gh.Near
