/- Tz3D0: printed by wip/tool/gx.py -/
import Derived.Test.YtcaphjiiaclndaaGreatDoorTzA
import Derived.Test.YtcaphjiiaclndaaGreatDoorGiC
import Derived.Test.YtcaphjiiaclndaaGreatDoorTz3N0
namespace Go.Gh.Tz
set_option linter.unusedVariables false
set_option linter.unusedSimpArgs false
abbrev LL : Type := List (List Int)
abbrev LI : Type := List Int
abbrev LN {α : Type} (l : List α) : Int := ((List.length l : Nat) : Int)
theorem eF {b : Bool} (h : ¬ b = true) : b = false := Bool.eq_false_iff.2 h
theorem sI {α : Type} {a b : α} (h : some a = some b) : a = b := Option.some.inj h
theorem eL {α : Type} {l : List α} {n : Int} (h : (((List.length l : Nat) : Int) == n) = true) : LN l = n := beq_iff_eq.mp h
abbrev pMa : Go.Gh.Ty := .pair (.int .i64) (.pair (.int .i64) (.pair (.int .u8) .unit))
abbrev pMb : Go.Gh.Ty := .pair (.int .i64) (.pair (.int .i64) .unit)
noncomputable section
open Go.Proofs
abbrev oL (l : List Nat) : En := .co (.live l)
abbrev oK (l : List Nat) : En := .co (.keep l)
abbrev oV (n : Int) : En := .v (.ipt (.int .i64) n)
abbrev oP (e : GExit) (s : GS) : En := .lp e s.env s.hp

def f5_M : List Nat := [1]
def f5_p4_1_H (x1 : Int) (x4 : LI) (x5 x2 : Int) : GS := ⟨[(0, (GI x1)), (5, (.r (.at (.sl 1 0 (List.length x4))))), (6, (GI x5)), (7, (GI x2)), (8, (GI x5)), (15, (.r (.at (.bool ((iAnd .i64 (iShr .i64 x1 x5) 1) == 1)))))], [(1, (.gr (.int .i64) 3 x4 true))]⟩
def f5_p4_1_x : (List Int) → GExit := fun y0 => .normal
def f5_p4_1_s (x1 : Int) (x4 : LI) (x5 x2 : Int) : (List Int) → GS := fun y0 => ⟨[(0, (GI x1)), (5, (.r (.at (.sl 1 0 (List.length y0))))), (7, (GI x2)), (8, (GI x5))], [(1, (.gr (.int .i64) 3 y0 true))]⟩
def f5_p4_1_P (x1 : Int) (x4 : LI) (x5 x2 : Int) (r : (List Int)) : Prop := Ex cx f5_M 22 (part Tryz.f5 4) (f5_p4_1_H x1 x4 x5 x2) (f5_p4_1_x r) (f5_p4_1_s x1 x4 x5 x2 r)
def f5_p1_H (x1 x2 x5 : Int) (x4 : LI) : GS := ⟨[(0, (GI x1)), (5, (.r (.at (.sl 1 0 (List.length x4))))), (7, (GI x2)), (8, (GI x5))], [(1, (.gr (.int .i64) 3 x4 true))]⟩
def f5_p1_x : (List Int) → GExit := fun y0 => (.exit 0)
def f5_p1_s (x1 x2 : Int) : (List Int) → GS := fun y0 => ⟨[(5, (.r (.at (.sl 1 0 (List.length y0)))))], [(1, (.gr (.int .i64) 3 y0 true))]⟩
def f5_p1_P (x1 x2 x5 : Int) (x4 : LI) (r : (List Int)) : Prop := Lp cx f5_M 22 (part Tryz.f5 1) (f5_p1_H x1 x2 x5 x4) (f5_p1_x r) (f5_p1_s x1 x2 r)
def f5_v : (List Int) → G := fun y0 => (GL y0)
def f5_k0 : (List Int) → List (Nat × Blk) := fun y0 => []
def f5_k (x1 x2 : Int) : (List Int) → List (Nat × Blk) := fun y0 => []
def f5_A (x1 x2 : Int) : List G := [(GI x1), (GI x2)]
def f5_K (x1 x2 : Int) : List (Nat × Blk) := []
def f5_C (x1 x2 : Int) (r : (List Int)) : Prop := CallOK cx 5 (f5_A x1 x2) (f5_K x1 x2) [] (f5_v r) (f5_k x1 x2 r)

def f28_M : List Nat := []
def f28_v : Bool → G := fun y0 => (GB y0)
def f28_k0 : Bool → List (Nat × Blk) := fun y0 => []
def f28_k (x1 : Int) : Bool → List (Nat × Blk) := fun y0 => []
def f28_A (x1 : Int) : List G := [(GI x1)]
def f28_K (x1 : Int) : List (Nat × Blk) := []
def f28_C (x1 : Int) (r : Bool) : Prop := CallOK cx 28 (f28_A x1) (f28_K x1) [] (f28_v r) (f28_k x1 r)

def f52_M : List Nat := []
def f52_v : Int → G := fun y0 => (GI y0)
def f52_k0 : Int → List (Nat × Blk) := fun y0 => []
def f52_k (x1 : Int) : Int → List (Nat × Blk) := fun y0 => []
def f52_A (x1 : Int) : List G := [(.r (.at (.int .u16 x1)))]
def f52_K (x1 : Int) : List (Nat × Blk) := []
def f52_C (x1 : Int) (r : Int) : Prop := CallOK cx 52 (f52_A x1) (f52_K x1) [] (f52_v r) (f52_k x1 r)

def f53_M : List Nat := []
def f53_v : (List Int) → G := fun y0 => (.r (.at (.lst (.int .i64) y0 true)))
def f53_k0 : (List Int) → List (Nat × Blk) := fun y0 => []
def f53_k (x1 : LI) : (List Int) → List (Nat × Blk) := fun y0 => []
def f53_A (x1 : LI) : List G := [(GL x1)]
def f53_K (x1 : LI) : List (Nat × Blk) := []
def f53_C (x1 : LI) (r : (List Int)) : Prop := CallOK cx 53 (f53_A x1) (f53_K x1) [] (f53_v r) (f53_k x1 r)

def f29_M : List Nat := [4, 5]
def f29_p2_H (x4 : LI) (x5 x6 x1 : Int) (x2 : LI) (x3 : Int) : GS := ⟨[(1, (GL x4)), (2, (.r (.at (.int .u16 x5)))), (3, (GI x6)), (4, (.r (.at (.ptr 4 0 0)))), (10, (.r (.at (.int .i64 0)))), (34, (.r (.at (.bool (decide ((LN x4) > 0))))))], [(4, (.var [.cell (.int .i64 x1), .cell (.lst (.int .u16) x2 false), .cell (.int .u16 x3)]))]⟩
def f29_p2_x : Int → GExit := fun y0 => .normal
def f29_p2_s (x4 : LI) (x5 x6 x1 : Int) (x2 : LI) (x3 : Int) : Int → GS := fun y0 => ⟨[(1, (GL x4)), (2, (.r (.at (.int .u16 x5)))), (3, (GI x6)), (4, (.r (.at (.ptr 4 0 0)))), (10, (GI y0))], [(4, (.var [.cell (.int .i64 x1), .cell (.lst (.int .u16) x2 false), .cell (.int .u16 x3)]))]⟩
def f29_p2_P (x4 : LI) (x5 x6 x1 : Int) (x2 : LI) (x3 : Int) (r : Int) : Prop := Ex cx f29_M 71 (part Tryz.f29 2) (f29_p2_H x4 x5 x6 x1 x2 x3) (f29_p2_x r) (f29_p2_s x4 x5 x6 x1 x2 x3 r)
def f29_p4_H (x4 : LI) (x5 x6 x1 : Int) (x2 : LI) (x3 x10 : Int) : GS := ⟨[(1, (GL x4)), (2, (.r (.at (.int .u16 x5)))), (3, (GI x6)), (4, (.r (.at (.ptr 4 0 0)))), (11, (GI x10))], [(4, (.var [.cell (.int .i64 x1), .cell (.lst (.int .u16) x2 false), .cell (.int .u16 x3)]))]⟩
def f29_p4_x : f29_p4_R → GExit := fun
 | .c0 y0 => .ret
 | .c1 => (.exit 0)
def f29_p4_s (x4 : LI) (x5 x6 x1 : Int) (x2 : LI) (x3 : Int) : f29_p4_R → GS := fun
 | .c0 y0 => ⟨[(8, (GL y0)), (9, (.r (.at (.bool true))))], []⟩
 | .c1 => ⟨[], []⟩
def f29_p4_P (x4 : LI) (x5 x6 x1 : Int) (x2 : LI) (x3 x10 : Int) (r : f29_p4_R) : Prop := Lp cx f29_M 71 (part Tryz.f29 4) (f29_p4_H x4 x5 x6 x1 x2 x3 x10) (f29_p4_x r) (f29_p4_s x4 x5 x6 x1 x2 x3 r)
def f29_v : ((List Int) × Bool) → G := fun (y0, y1) => (.tup [(.at (.lst (.int .i64) y0 false)), (.at (.bool y1))])
def f29_k0 : ((List Int) × Bool) → List (Nat × Blk) := fun (y0, y1) => []
def f29_k (x1 : Int) (x2 : LI) (x3 : Int) (x4 : LI) (x5 x6 : Int) : ((List Int) × Bool) → List (Nat × Blk) := fun (y0, y1) => []
def f29_A (x1 : Int) (x2 : LI) (x3 : Int) (x4 : LI) (x5 x6 : Int) : List G := [(.r (.agg [.cell (.int .i64 x1), .cell (.lst (.int .u16) x2 false), .cell (.int .u16 x3)])), (GL x4), (.r (.at (.int .u16 x5))), (GI x6)]
def f29_K (x1 : Int) (x2 : LI) (x3 : Int) (x4 : LI) (x5 x6 : Int) : List (Nat × Blk) := []
def f29_C (x1 : Int) (x2 : LI) (x3 : Int) (x4 : LI) (x5 x6 : Int) (r : (List Int) × Bool) : Prop := CallOK cx 29 (f29_A x1 x2 x3 x4 x5 x6) (f29_K x1 x2 x3 x4 x5 x6) [] (f29_v r) (f29_k x1 x2 x3 x4 x5 x6 r)

def f6_M : List Nat := [2, 3]
def f6_p8_2_H (x1 x14 x15 : Int) (x13 : LI) (x16 x17 x18 : Int) : GS := ⟨[(0, (GI x1)), (4, (.r (.at (.ptr 2 0 0)))), (5, (GI x14)), (6, (.r (.at (.int .u16 x17)))), (25, (.r (.at (.int .i64 (iShl .i64 1 x1))))), (26, (GI x14)), (31, (GI x1)), (32, (GI x18))], [(2, (.var [.cell (.int .i64 x15), .cell (.sl 3 0 (List.length x13)), .cell (.int .u16 x16)])), (3, (.gr (.int .u16) 22 x13 true))]⟩
def f6_p8_2_x : Int → GExit := fun y0 => (.exit 3)
def f6_p8_2_s (x1 x14 x15 : Int) (x13 : LI) (x16 : Int) : Int → GS := fun y0 => ⟨[(0, (GI x1)), (4, (.r (.at (.ptr 2 0 0)))), (6, (.r (.at (.int .u16 y0)))), (25, (.r (.at (.int .i64 (iShl .i64 1 x1))))), (26, (GI x14))], [(2, (.var [.cell (.int .i64 x15), .cell (.sl 3 0 (List.length x13)), .cell (.int .u16 x16)])), (3, (.gr (.int .u16) 22 x13 true))]⟩
def f6_p8_2_P (x1 x14 x15 : Int) (x13 : LI) (x16 x17 x18 : Int) (r : Int) : Prop := Lp cx f6_M 65 (part Tryz.f6 8) (f6_p8_2_H x1 x14 x15 x13 x16 x17 x18) (f6_p8_2_x r) (f6_p8_2_s x1 x14 x15 x13 x16 r)
def f6_p4_H (x1 x14 : Int) (x15 x16 : Int) (x13 : LI) : GS := ⟨[(0, (GI x1)), (4, (.r (.at (.ptr 2 0 0)))), (25, (.r (.at (.int .i64 (iShl .i64 1 x1))))), (26, (GI x14))], [(2, (.var [.cell (.int .i64 x15), .cell (.sl 3 0 (List.length x13)), .cell (.int .u16 x16)])), (3, (.gr (.int .u16) 22 x13 true))]⟩
def f6_p4_x : (Int × Int × (List Int)) → GExit := fun (y0, y1, y2) => (.exit 1)
def f6_p4_s (x1 : Int) : (Int × Int × (List Int)) → GS := fun (y0, y1, y2) => ⟨[(4, (.r (.at (.ptr 2 0 0))))], [(2, (.var [.cell (.int .i64 y0), .cell (.sl 3 0 (List.length y2)), .cell (.int .u16 y1)])), (3, (.gr (.int .u16) 22 y2 true))]⟩
def f6_p4_P (x1 x14 : Int) (x15 x16 : Int) (x13 : LI) (r : Int × Int × (List Int)) : Prop := Lp cx f6_M 65 (part Tryz.f6 4) (f6_p4_H x1 x14 x15 x16 x13) (f6_p4_x r) (f6_p4_s x1 r)
def f6_p12_H (x20 : Int) (x22 : LI) (x21 x26 : Int) : GS := ⟨[(4, (.r (.at (.ptr 2 0 0)))), (8, (GI x26))], [(2, (.var [.cell (.int .i64 x20), .cell (.lst (.int .u16) ((List.drop 0 (List.take (0 + (List.length x22)) x22)) : List Int) false), .cell (.int .u16 x21)]))]⟩
def f6_p12_x : f6_p12_R → GExit := fun
 | .c0 y0 => .ret
 | .c1 => (.exit 5)
def f6_p12_s (x20 : Int) (x22 : LI) (x21 : Int) : f6_p12_R → GS := fun
 | .c0 y0 => ⟨[(2, (GL y0)), (3, (.r (.at (.int .i64 0))))], []⟩
 | .c1 => ⟨[], []⟩
def f6_p12_P (x20 : Int) (x22 : LI) (x21 x26 : Int) (r : f6_p12_R) : Prop := Lp cx f6_M 65 (part Tryz.f6 12) (f6_p12_H x20 x22 x21 x26) (f6_p12_x r) (f6_p12_s x20 x22 x21 r)
def f6_v : ((List Int) × Int) → G := fun (y0, y1) => (.tup [(.at (.lst (.int .i64) y0 false)), (.at (.int .i64 y1))])
def f6_k0 : ((List Int) × Int) → List (Nat × Blk) := fun (y0, y1) => []
def f6_k (x1 : Int) : ((List Int) × Int) → List (Nat × Blk) := fun (y0, y1) => []
def f6_A (x1 : Int) : List G := [(GI x1)]
def f6_K (x1 : Int) : List (Nat × Blk) := []
def f6_C (x1 : Int) (r : (List Int) × Int) : Prop := CallOK cx 6 (f6_A x1) (f6_K x1) [] (f6_v r) (f6_k x1 r)

def f54_M : List Nat := []
def f54_v : Bool → G := fun y0 => (GB y0)
def f54_k0 : Bool → List (Nat × Blk) := fun y0 => []
def f54_k (x1 : Int) : Bool → List (Nat × Blk) := fun y0 => []
def f54_A (x1 : Int) : List G := [(GI x1)]
def f54_K (x1 : Int) : List (Nat × Blk) := []
def f54_C (x1 : Int) (r : Bool) : Prop := CallOK cx 54 (f54_A x1) (f54_K x1) [] (f54_v r) (f54_k x1 r)

def f55_M : List Nat := []
def f55_p1_H (x1 : Int) (x2 : LI) (x3 x4 x5 : Int) : GS := ⟨[(0, (GI x1)), (6, (.r (.at (.int .u64 x3)))), (7, (GI x4)), (10, (GL x2)), (11, (.r (.at (.int .i64 (LN x2))))), (12, (GI x5))], []⟩
def f55_p1_x : f55_p1_R → GExit := fun
 | .c0 y0 => .ret
 | .c1 y0 => (.exit 0)
def f55_p1_s (x1 : Int) (x2 : LI) : f55_p1_R → GS := fun
 | .c0 y0 => ⟨[(4, (.r (.at (.int .u64 0)))), (5, (GI y0))], []⟩
 | .c1 y0 => ⟨[(6, (.r (.at (.int .u64 y0))))], []⟩
def f55_p1_P (x1 : Int) (x2 : LI) (x3 x4 x5 : Int) (r : f55_p1_R) : Prop := Lp cx f55_M 35 (part Tryz.f55 1) (f55_p1_H x1 x2 x3 x4 x5) (f55_p1_x r) (f55_p1_s x1 x2 r)
def f55_v : (Int × Int) → G := fun (y0, y1) => (.tup [(.at (.int .u64 y0)), (.at (.int .i64 y1))])
def f55_k0 : (Int × Int) → List (Nat × Blk) := fun (y0, y1) => []
def f55_k (x1 : Int) (x2 : LI) : (Int × Int) → List (Nat × Blk) := fun (y0, y1) => []
def f55_A (x1 : Int) (x2 : LI) : List G := [(GI x1), (GL x2)]
def f55_K (x1 : Int) (x2 : LI) : List (Nat × Blk) := []
def f55_C (x1 : Int) (x2 : LI) (r : Int × Int) : Prop := CallOK cx 55 (f55_A x1 x2) (f55_K x1 x2) [] (f55_v r) (f55_k x1 x2 r)

def f91_M : List Nat := []
def f91_p1_H (x1 : LI) (x2 x3 : Int) : GS := ⟨[(0, (.r (.at (.lst (.int .u64) x1 false)))), (1, (.r (.at (.int .u64 x2)))), (7, (.r (.at (.int .i64 (LN x1))))), (8, (GI x3))], []⟩
def f91_p1_x : f91_p1_R → GExit := fun
 | .c0 y0 => .ret
 | .c1 => (.exit 0)
def f91_p1_s (x1 : LI) (x2 : Int) : f91_p1_R → GS := fun
 | .c0 y0 => ⟨[(4, (GI y0))], []⟩
 | .c1 => ⟨[], []⟩
def f91_p1_P (x1 : LI) (x2 x3 : Int) (r : f91_p1_R) : Prop := Lp cx f91_M 19 (part Tryz.f91 1) (f91_p1_H x1 x2 x3) (f91_p1_x r) (f91_p1_s x1 x2 r)
def f91_v : Int → G := fun y0 => (GI y0)
def f91_k0 : Int → List (Nat × Blk) := fun y0 => []
def f91_k (x1 : LI) (x2 : Int) : Int → List (Nat × Blk) := fun y0 => []
def f91_A (x1 : LI) (x2 : Int) : List G := [(.r (.at (.lst (.int .u64) x1 false))), (.r (.at (.int .u64 x2)))]
def f91_K (x1 : LI) (x2 : Int) : List (Nat × Blk) := []
def f91_C (x1 : LI) (x2 : Int) (r : Int) : Prop := CallOK cx 91 (f91_A x1 x2) (f91_K x1 x2) [] (f91_v r) (f91_k x1 x2 r)

def f56_M : List Nat := []
def f56_v : Bool → G := fun y0 => (GB y0)
def f56_k0 : Bool → List (Nat × Blk) := fun y0 => []
def f56_k (x1 : LI) (x2 : Int) : Bool → List (Nat × Blk) := fun y0 => []
def f56_A (x1 : LI) (x2 : Int) : List G := [(.r (.at (.lst (.int .u64) x1 false))), (.r (.at (.int .u64 x2)))]
def f56_K (x1 : LI) (x2 : Int) : List (Nat × Blk) := []
def f56_C (x1 : LI) (x2 : Int) (r : Bool) : Prop := CallOK cx 56 (f56_A x1 x2) (f56_K x1 x2) [] (f56_v r) (f56_k x1 x2 r)

def f30_M : List Nat := [9, 10]
def f30_p2_H (x2 : LL) (x1 x10 : Int) (x9 : LI) : GS := ⟨[(1, (.r (.at (.ptr 9 0 0)))), (4, (.r (.at (.sl 10 0 (List.length x9))))), (14, (.r (.at (.lst (.list (.int .i64)) x2 false)))), (15, (.r (.at (.int .i64 (LN x2))))), (16, (GI x10))], [(9, (.var [.cell (.int .i64 x1), .cell (.lst (.list (.int .i64)) x2 false)])), (10, (.gr (.int .u64) 86 x9 true))]⟩
def f30_p2_x : f30_p2_R → GExit := fun
 | .c0 y0 => .ret
 | .c1 y0 => (.exit 0)
def f30_p2_s (x2 : LL) (x1 : Int) : f30_p2_R → GS := fun
 | .c0 y0 => ⟨[(2, (.r (.at .nils))), (3, (GI y0))], []⟩
 | .c1 y0 => ⟨[(4, (.r (.at (.sl 10 0 (List.length y0)))))], [(10, (.gr (.int .u64) 86 y0 true))]⟩
def f30_p2_P (x2 : LL) (x1 x10 : Int) (x9 : LI) (r : f30_p2_R) : Prop := Lp cx f30_M 41 (part Tryz.f30 2) (f30_p2_H x2 x1 x10 x9) (f30_p2_x r) (f30_p2_s x2 x1 r)
def f30_v : ((List Int) × Int) → G := fun (y0, y1) => (.tup [(.at (.lst (.int .u64) y0 false)), (.at (.int .i64 y1))])
def f30_k0 : ((List Int) × Int) → List (Nat × Blk) := fun (y0, y1) => []
def f30_k (x1 : Int) (x2 : LL) : ((List Int) × Int) → List (Nat × Blk) := fun (y0, y1) => []
def f30_A (x1 : Int) (x2 : LL) : List G := [(.r (.agg [.cell (.int .i64 x1), .cell (.lst (.list (.int .i64)) x2 false)]))]
def f30_K (x1 : Int) (x2 : LL) : List (Nat × Blk) := []
def f30_C (x1 : Int) (x2 : LL) (r : (List Int) × Int) : Prop := CallOK cx 30 (f30_A x1 x2) (f30_K x1 x2) [] (f30_v r) (f30_k x1 x2 r)

def f32_M : List Nat := [11]
def f32_p8_2_H (x1 : Int) (x3 : Bool) (x16 : LI) (x15 x17 : Int) (x2 : LI) (x14 : Int) (x18 : Bool) : GS := ⟨[(0, (GI x1)), (2, (GB x3)), (7, (.r (.at (.sl 11 0 (List.length x16))))), (9, (.r (.at (.int .u64 x15)))), (11, (.r (.at (.int .u64 (iXor .u64 x15 (iShl .u64 1 x17)))))), (12, (.r (.at (.lst (.int .u64) x2 false)))), (13, (.r (.at (.int .i64 (LN x2))))), (14, (GI x14)), (18, (GI x1)), (19, (GI x17)), (36, (.r (.at (.bool (!x18)))))], [(11, (.gr (.int .u64) 86 x16 true))]⟩
def f32_p8_2_x : (List Int) → GExit := fun y0 => .normal
def f32_p8_2_s (x1 : Int) (x3 : Bool) (x16 : LI) (x15 x17 : Int) (x2 : LI) (x14 : Int) (x18 : Bool) : (List Int) → GS := fun y0 => ⟨[(0, (GI x1)), (2, (GB x3)), (7, (.r (.at (.sl 11 0 (List.length y0))))), (9, (.r (.at (.int .u64 x15)))), (12, (.r (.at (.lst (.int .u64) x2 false)))), (13, (.r (.at (.int .i64 (LN x2))))), (14, (GI x14)), (18, (GI x1)), (19, (GI x17))], [(11, (.gr (.int .u64) 86 y0 true))]⟩
def f32_p8_2_P (x1 : Int) (x3 : Bool) (x16 : LI) (x15 x17 : Int) (x2 : LI) (x14 : Int) (x18 : Bool) (r : (List Int)) : Prop := Ex cx f32_M 44 (part Tryz.f32 8) (f32_p8_2_H x1 x3 x16 x15 x17 x2 x14 x18) (f32_p8_2_x r) (f32_p8_2_s x1 x3 x16 x15 x17 x2 x14 x18 r)
def f32_p5_1_H (x1 : Int) (x3 : Bool) (x15 : Int) (x2 : LI) (x14 x17 : Int) (x16 : LI) : GS := ⟨[(0, (GI x1)), (2, (GB x3)), (7, (.r (.at (.sl 11 0 (List.length x16))))), (9, (.r (.at (.int .u64 x15)))), (12, (.r (.at (.lst (.int .u64) x2 false)))), (13, (.r (.at (.int .i64 (LN x2))))), (14, (GI x14)), (18, (GI x1)), (19, (GI x17))], [(11, (.gr (.int .u64) 86 x16 true))]⟩
def f32_p5_1_x : (List Int) → GExit := fun y0 => (.exit 2)
def f32_p5_1_s (x1 : Int) (x3 : Bool) (x15 : Int) (x2 : LI) (x14 : Int) : (List Int) → GS := fun y0 => ⟨[(0, (GI x1)), (2, (GB x3)), (7, (.r (.at (.sl 11 0 (List.length y0))))), (12, (.r (.at (.lst (.int .u64) x2 false)))), (13, (.r (.at (.int .i64 (LN x2))))), (14, (GI x14))], [(11, (.gr (.int .u64) 86 y0 true))]⟩
def f32_p5_1_P (x1 : Int) (x3 : Bool) (x15 : Int) (x2 : LI) (x14 x17 : Int) (x16 : LI) (r : (List Int)) : Prop := Lp cx f32_M 44 (part Tryz.f32 5) (f32_p5_1_H x1 x3 x15 x2 x14 x17 x16) (f32_p5_1_x r) (f32_p5_1_s x1 x3 x15 x2 x14 r)
def f32_p1_H (x1 : Int) (x3 : Bool) (x2 : LI) (x14 : Int) (x13 : LI) : GS := ⟨[(0, (GI x1)), (2, (GB x3)), (7, (.r (.at (.sl 11 0 (List.length x13))))), (12, (.r (.at (.lst (.int .u64) x2 false)))), (13, (.r (.at (.int .i64 (LN x2))))), (14, (GI x14))], [(11, (.gr (.int .u64) 86 x13 true))]⟩
def f32_p1_x : (List Int) → GExit := fun y0 => (.exit 0)
def f32_p1_s (x1 : Int) (x3 : Bool) (x2 : LI) : (List Int) → GS := fun y0 => ⟨[(7, (.r (.at (.sl 11 0 (List.length y0)))))], [(11, (.gr (.int .u64) 86 y0 true))]⟩
def f32_p1_P (x1 : Int) (x3 : Bool) (x2 : LI) (x14 : Int) (x13 : LI) (r : (List Int)) : Prop := Lp cx f32_M 44 (part Tryz.f32 1) (f32_p1_H x1 x3 x2 x14 x13) (f32_p1_x r) (f32_p1_s x1 x3 x2 r)
def f32_v : (List Int) → G := fun y0 => (.r (.at (.lst (.int .u64) y0 false)))
def f32_k0 : (List Int) → List (Nat × Blk) := fun y0 => []
def f32_k (x1 : Int) (x2 : LI) (x3 : Bool) : (List Int) → List (Nat × Blk) := fun y0 => []
def f32_A (x1 : Int) (x2 : LI) (x3 : Bool) : List G := [(GI x1), (.r (.at (.lst (.int .u64) x2 false))), (GB x3)]
def f32_K (x1 : Int) (x2 : LI) (x3 : Bool) : List (Nat × Blk) := []
def f32_C (x1 : Int) (x2 : LI) (x3 : Bool) (r : (List Int)) : Prop := CallOK cx 32 (f32_A x1 x2 x3) (f32_K x1 x2 x3) [] (f32_v r) (f32_k x1 x2 x3 r)

def f112_M : List Nat := []
def f112_v : Int → G := fun y0 => (GI y0)
def f112_k0 : Int → List (Nat × Blk) := fun y0 => []
def f112_k (x1 : Int) : Int → List (Nat × Blk) := fun y0 => []
def f112_A (x1 : Int) : List G := [(.r (.at (.int .u64 x1)))]
def f112_K (x1 : Int) : List (Nat × Blk) := []
def f112_C (x1 : Int) (r : Int) : Prop := CallOK cx 112 (f112_A x1) (f112_K x1) [] (f112_v r) (f112_k x1 r)

def f92_M : List Nat := []
def f92_v : Int → G := fun y0 => (GI y0)
def f92_k0 : Int → List (Nat × Blk) := fun y0 => []
def f92_k (x1 : Int) : Int → List (Nat × Blk) := fun y0 => []
def f92_A (x1 : Int) : List G := [(.r (.at (.int .u64 x1)))]
def f92_K (x1 : Int) : List (Nat × Blk) := []
def f92_C (x1 : Int) (r : Int) : Prop := CallOK cx 92 (f92_A x1) (f92_K x1) [] (f92_v r) (f92_k x1 r)

def f58_M : List Nat := [12]
def f58_p1_H (x5 : Int) (x4 : LI) : GS := ⟨[(0, (.r (.at (.int .u64 x5)))), (3, (.r (.at (.sl 12 0 (List.length x4)))))], [(12, (.gr (.int .i64) 3 x4 true))]⟩
def f58_p1_x : (List Int) → GExit := fun y0 => (.exit 0)
def f58_p1_s : (List Int) → GS := fun y0 => ⟨[(3, (.r (.at (.sl 12 0 (List.length y0)))))], [(12, (.gr (.int .i64) 3 y0 true))]⟩
def f58_p1_P (x5 : Int) (x4 : LI) (r : (List Int)) : Prop := Lp cx f58_M 16 (part Tryz.f58 1) (f58_p1_H x5 x4) (f58_p1_x r) (f58_p1_s r)
def f58_v : (List Int) → G := fun y0 => (GL y0)
def f58_k0 : (List Int) → List (Nat × Blk) := fun y0 => []
def f58_k (x1 : Int) : (List Int) → List (Nat × Blk) := fun y0 => []
def f58_A (x1 : Int) : List G := [(.r (.at (.int .u64 x1)))]
def f58_K (x1 : Int) : List (Nat × Blk) := []
def f58_C (x1 : Int) (r : (List Int)) : Prop := CallOK cx 58 (f58_A x1) (f58_K x1) [] (f58_v r) (f58_k x1 r)

def f57_M : List Nat := [13]
def f57_p1_H (x1 : LI) (x6 : Int) (x5 : LL) : GS := ⟨[(1, (.r (.at (.fn 58)))), (5, (.r (.at (.sl 13 0 (List.length x5))))), (8, (.r (.at (.lst (.int .u64) x1 false)))), (9, (.r (.at (.int .i64 (LN x1))))), (10, (GI x6))], [(13, (.gr (.list (.int .i64)) 23 x5 true))]⟩
def f57_p1_x : (List (List Int)) → GExit := fun y0 => (.exit 0)
def f57_p1_s (x1 : LI) : (List (List Int)) → GS := fun y0 => ⟨[(5, (.r (.at (.sl 13 0 (List.length y0)))))], [(13, (.gr (.list (.int .i64)) 23 y0 true))]⟩
def f57_p1_P (x1 : LI) (x6 : Int) (x5 : LL) (r : (List (List Int))) : Prop := Lp cx f57_M 22 (part Tryz.f57 1) (f57_p1_H x1 x6 x5) (f57_p1_x r) (f57_p1_s x1 r)
def f57_v : (List (List Int)) → G := fun y0 => (.r (.at (.sl 13 0 (List.length y0))))
def f57_k0 : (List (List Int)) → List (Nat × Blk) := fun y0 => [(13, (.gr (.list (.int .i64)) 23 y0 true))]
def f57_k (x1 : LI) : (List (List Int)) → List (Nat × Blk) := fun y0 => [(13, (.gr (.list (.int .i64)) 23 y0 true))]
def f57_A (x1 : LI) : List G := [(.r (.at (.lst (.int .u64) x1 false))), (.r (.at (.fn 58)))]
def f57_K (x1 : LI) : List (Nat × Blk) := []
def f57_C (x1 : LI) (r : (List (List Int))) : Prop := CallOK cx 57 (f57_A x1) (f57_K x1) [] (f57_v r) (f57_k x1 r)

def f74_M : List Nat := []
def f74_p0_H (x1 : Int) : GS := ⟨[(0, (.r (.at (.int .u64 x1)))), (2, (.r (.at (.int .i64 0)))), (4, (.r (.at (.bool (decide (x1 ≥ 4294967296))))))], []⟩
def f74_p0_x : (Int × Int) → GExit := fun (y0, y1) => .normal
def f74_p0_s (x1 : Int) : (Int × Int) → GS := fun (y0, y1) => ⟨[(0, (.r (.at (.int .u64 y0)))), (2, (GI y1))], []⟩
def f74_p0_P (x1 : Int) (r : Int × Int) : Prop := Ex cx f74_M 25 (part Tryz.f74 0) (f74_p0_H x1) (f74_p0_x r) (f74_p0_s x1 r)
def f74_p1_H (x2 x3 : Int) : GS := ⟨[(0, (.r (.at (.int .u64 x2)))), (2, (GI x3)), (8, (.r (.at (.bool (decide (x2 ≥ 65536))))))], []⟩
def f74_p1_x : (Int × Int) → GExit := fun (y0, y1) => .normal
def f74_p1_s (x2 x3 : Int) : (Int × Int) → GS := fun (y0, y1) => ⟨[(0, (.r (.at (.int .u64 y0)))), (2, (GI y1))], []⟩
def f74_p1_P (x2 x3 : Int) (r : Int × Int) : Prop := Ex cx f74_M 25 (part Tryz.f74 1) (f74_p1_H x2 x3) (f74_p1_x r) (f74_p1_s x2 x3 r)
def f74_p2_H (x4 x5 : Int) : GS := ⟨[(0, (.r (.at (.int .u64 x4)))), (2, (GI x5)), (14, (.r (.at (.bool (decide (x4 ≥ 256))))))], []⟩
def f74_p2_x : (Int × Int) → GExit := fun (y0, y1) => .normal
def f74_p2_s (x4 x5 : Int) : (Int × Int) → GS := fun (y0, y1) => ⟨[(0, (.r (.at (.int .u64 y0)))), (2, (GI y1))], []⟩
def f74_p2_P (x4 x5 : Int) (r : Int × Int) : Prop := Ex cx f74_M 25 (part Tryz.f74 2) (f74_p2_H x4 x5) (f74_p2_x r) (f74_p2_s x4 x5 r)
def f74_v : Int → G := fun y0 => (GI y0)
def f74_k0 : Int → List (Nat × Blk) := fun y0 => []
def f74_k (x1 : Int) : Int → List (Nat × Blk) := fun y0 => []
def f74_A (x1 : Int) : List G := [(.r (.at (.int .u64 x1)))]
def f74_K (x1 : Int) : List (Nat × Blk) := []
def f74_C (x1 : Int) (r : Int) : Prop := CallOK cx 74 (f74_A x1) (f74_K x1) [] (f74_v r) (f74_k x1 r)

def f39_M : List Nat := []
def f39_v : Int → G := fun y0 => (GI y0)
def f39_k0 : Int → List (Nat × Blk) := fun y0 => []
def f39_k (x1 : Int) : Int → List (Nat × Blk) := fun y0 => []
def f39_A (x1 : Int) : List G := [(.r (.at (.int .u64 x1)))]
def f39_K (x1 : Int) : List (Nat × Blk) := []
def f39_C (x1 : Int) (r : Int) : Prop := CallOK cx 39 (f39_A x1) (f39_K x1) [] (f39_v r) (f39_k x1 r)

def f105_M : List Nat := []
def f105_v : Bool → G := fun y0 => (GB y0)
def f105_k0 : Bool → List (Nat × Blk) := fun y0 => []
def f105_k (x1 : Int) : Bool → List (Nat × Blk) := fun y0 => []
def f105_A (x1 : Int) : List G := [(GI x1)]
def f105_K (x1 : Int) : List (Nat × Blk) := []
def f105_C (x1 : Int) (r : Bool) : Prop := CallOK cx 105 (f105_A x1) (f105_K x1) [] (f105_v r) (f105_k x1 r)

def f94_M : List Nat := []
def f94_v : Int → G := fun y0 => (GI y0)
def f94_k0 : Int → List (Nat × Blk) := fun y0 => []
def f94_k (x1 x2 : Int) : Int → List (Nat × Blk) := fun y0 => []
def f94_A (x1 x2 : Int) : List G := [(GI x1), (GI x2)]
def f94_K (x1 x2 : Int) : List (Nat × Blk) := []
def f94_C (x1 x2 : Int) (r : Int) : Prop := CallOK cx 94 (f94_A x1 x2) (f94_K x1 x2) [] (f94_v r) (f94_k x1 x2 r)

def f60_M : List Nat := []
def f60_p1_H (x1 x2 : LI) (x3 : Int) : GS := ⟨[(0, (GL x1)), (1, (GL x2)), (9, (GL x1)), (10, (.r (.at (.int .i64 (LN x1))))), (11, (GI x3))], []⟩
def f60_p1_x : f60_p1_R → GExit := fun
 | .c0 y0 => .ret
 | .c1 => (.exit 0)
def f60_p1_s (x1 x2 : LI) : f60_p1_R → GS := fun
 | .c0 y0 => ⟨[(4, (GI y0))], []⟩
 | .c1 => ⟨[(0, (GL x1)), (1, (GL x2))], []⟩
def f60_p1_P (x1 x2 : LI) (x3 : Int) (r : f60_p1_R) : Prop := Lp cx f60_M 36 (part Tryz.f60 1) (f60_p1_H x1 x2 x3) (f60_p1_x r) (f60_p1_s x1 x2 r)
def f60_v : Int → G := fun y0 => (GI y0)
def f60_k0 : Int → List (Nat × Blk) := fun y0 => []
def f60_k (x1 x2 : LI) : Int → List (Nat × Blk) := fun y0 => []
def f60_A (x1 x2 : LI) : List G := [(GL x1), (GL x2)]
def f60_K (x1 x2 : LI) : List (Nat × Blk) := []
def f60_C (x1 x2 : LI) (r : Int) : Prop := CallOK cx 60 (f60_A x1 x2) (f60_K x1 x2) [] (f60_v r) (f60_k x1 x2 r)

def f113_M : List Nat := []
def f113_p5_1_H (x1 x2 : Nat) (x3 x4 : Int) (x18 x24 : Int) (x23 : LL) : GS := ⟨[(0, (.r (.at (.sl 13 x1 x2)))), (1, (GI x3)), (2, (GI x4)), (3, (.r (.at (.fn 60)))), (8, (GI x18)), (9, (GI x24))], [(13, (.gr (.list (.int .i64)) 23 x23 true))]⟩
def f113_p5_1_x : (List (List Int)) → GExit := fun y0 => (.exit 2)
def f113_p5_1_s (x1 x2 : Nat) (x3 x4 x18 : Int) : (List (List Int)) → GS := fun y0 => ⟨[(0, (.r (.at (.sl 13 x1 x2)))), (1, (GI x3)), (2, (GI x4)), (3, (.r (.at (.fn 60)))), (8, (GI x18))], [(13, (.gr (.list (.int .i64)) 23 y0 true))]⟩
def f113_p5_1_P (x1 x2 : Nat) (x3 x4 : Int) (x18 x24 : Int) (x23 : LL) (r : (List (List Int))) : Prop := Lp cx f113_M 53 (part Tryz.f113 5) (f113_p5_1_H x1 x2 x3 x4 x18 x24 x23) (f113_p5_1_x r) (f113_p5_1_s x1 x2 x3 x4 x18 r)
def f113_p1_H (x1 x2 : Nat) (x3 x4 x18 : Int) (x17 : LL) : GS := ⟨[(0, (.r (.at (.sl 13 x1 x2)))), (1, (GI x3)), (2, (GI x4)), (3, (.r (.at (.fn 60)))), (8, (GI x18))], [(13, (.gr (.list (.int .i64)) 23 x17 true))]⟩
def f113_p1_x : (List (List Int)) → GExit := fun y0 => (.exit 0)
def f113_p1_s (x1 x2 : Nat) (x3 x4 : Int) : (List (List Int)) → GS := fun y0 => ⟨[], [(13, (.gr (.list (.int .i64)) 23 y0 true))]⟩
def f113_p1_P (x1 x2 : Nat) (x3 x4 x18 : Int) (x17 : LL) (r : (List (List Int))) : Prop := Lp cx f113_M 53 (part Tryz.f113 1) (f113_p1_H x1 x2 x3 x4 x18 x17) (f113_p1_x r) (f113_p1_s x1 x2 x3 x4 r)
def f113_v : (List (List Int)) → G := fun y0 => (.r (.at .unit0))
def f113_k0 : (List (List Int)) → List (Nat × Blk) := fun y0 => [(13, (.gr (.list (.int .i64)) 23 y0 true))]
def f113_k (x1 x2 : Nat) (x3 x4 : Int) (x5 : LL) : (List (List Int)) → List (Nat × Blk) := fun y0 => [(13, (.gr (.list (.int .i64)) 23 y0 true))]
def f113_A (x1 x2 : Nat) (x3 x4 : Int) (x5 : LL) : List G := [(.r (.at (.sl 13 x1 x2))), (GI x3), (GI x4), (.r (.at (.fn 60)))]
def f113_K (x1 x2 : Nat) (x3 x4 : Int) (x5 : LL) : List (Nat × Blk) := [(13, (.gr (.list (.int .i64)) 23 x5 true))]
def f113_C (x1 x2 : Nat) (x3 x4 : Int) (x5 : LL) (r : (List (List Int))) : Prop := CallOK cx 113 (f113_A x1 x2 x3 x4 x5) (f113_K x1 x2 x3 x4 x5) [] (f113_v r) (f113_k x1 x2 x3 x4 x5 r)

def f101_M : List Nat := []
def f101_v : Int → G := fun y0 => (.r (.at (.int .u64 y0)))
def f101_k0 : Int → List (Nat × Blk) := fun y0 => []
def f101_k (x1 : Int) : Int → List (Nat × Blk) := fun y0 => []
def f101_A (x1 : Int) : List G := [(GI x1)]
def f101_K (x1 : Int) : List (Nat × Blk) := []
def f101_C (x1 : Int) (r : Int) : Prop := CallOK cx 101 (f101_A x1) (f101_K x1) [] (f101_v r) (f101_k x1 r)

def f102_M : List Nat := []
def f102_v : (Int × Int) → G := fun (y0, y1) => (.r (.at (.int .u64 y0)))
def f102_k0 : (Int × Int) → List (Nat × Blk) := fun (y0, y1) => [(14, (.var [.cell (.int .u64 y1)]))]
def f102_k (x1 : Int) : (Int × Int) → List (Nat × Blk) := fun (y0, y1) => [(14, (.var [.cell (.int .u64 y1)]))]
def f102_A (x1 : Int) : List G := [(.r (.at (.ptr 14 0 0)))]
def f102_K (x1 : Int) : List (Nat × Blk) := [(14, (.var [.cell (.int .u64 x1)]))]
def f102_C (x1 : Int) (r : Int × Int) : Prop := CallOK cx 102 (f102_A x1) (f102_K x1) [] (f102_v r) (f102_k x1 r)

def f115_M : List Nat := [14]
def f115_p5_1_H (x1 x2 : Nat) (x3 x4 : Int) (x6 x14 x16 : Int) (x13 : LL) (x17 : Int) : GS := ⟨[(0, (.r (.at (.sl 13 x1 x2)))), (1, (GI x3)), (8, (.r (.at (.int .i64 (w64 (x4 - x3)))))), (9, (.r (.at (.ptr 14 0 0)))), (10, (.r (.at (.int .u64 x6)))), (11, (GI x14)), (12, (.r (.at (.int .i64 (w64 ((iAnd .u64 x16 (IntKind.wrap .u64 (x6 - 1))))))))), (45, (.r (.at (.bool (decide ((w64 ((iAnd .u64 x16 (IntKind.wrap .u64 (x6 - 1))))) ≥ (w64 (x4 - x3))))))))], [(13, (.gr (.list (.int .i64)) 23 x13 true)), (14, (.var [.cell (.int .u64 x17)]))]⟩
def f115_p5_1_x : Int → GExit := fun y0 => .normal
def f115_p5_1_s (x1 x2 : Nat) (x3 x4 : Int) (x6 x14 x16 : Int) (x13 : LL) (x17 : Int) : Int → GS := fun y0 => ⟨[(0, (.r (.at (.sl 13 x1 x2)))), (1, (GI x3)), (8, (.r (.at (.int .i64 (w64 (x4 - x3)))))), (9, (.r (.at (.ptr 14 0 0)))), (10, (.r (.at (.int .u64 x6)))), (11, (GI x14)), (12, (GI y0))], [(13, (.gr (.list (.int .i64)) 23 x13 true)), (14, (.var [.cell (.int .u64 x17)]))]⟩
def f115_p5_1_P (x1 x2 : Nat) (x3 x4 : Int) (x6 x14 x16 : Int) (x13 : LL) (x17 : Int) (r : Int) : Prop := Ex cx f115_M 67 (part Tryz.f115 5) (f115_p5_1_H x1 x2 x3 x4 x6 x14 x16 x13 x17) (f115_p5_1_x r) (f115_p5_1_s x1 x2 x3 x4 x6 x14 x16 x13 x17 r)
def f115_p2_H (x1 x2 : Nat) (x3 x4 : Int) (x6 x14 : Int) (x13 : LL) (x15 : Int) : GS := ⟨[(0, (.r (.at (.sl 13 x1 x2)))), (1, (GI x3)), (8, (.r (.at (.int .i64 (w64 (x4 - x3)))))), (9, (.r (.at (.ptr 14 0 0)))), (10, (.r (.at (.int .u64 x6)))), (11, (GI x14))], [(13, (.gr (.list (.int .i64)) 23 x13 true)), (14, (.var [.cell (.int .u64 x15)]))]⟩
def f115_p2_x : (List (List Int)) → GExit := fun y0 => (.exit 0)
def f115_p2_s (x1 x2 : Nat) (x3 x4 x6 : Int) : (List (List Int)) → GS := fun y0 => ⟨[], [(13, (.gr (.list (.int .i64)) 23 y0 true))]⟩
def f115_p2_P (x1 x2 : Nat) (x3 x4 : Int) (x6 x14 : Int) (x13 : LL) (x15 : Int) (r : (List (List Int))) : Prop := Lp cx f115_M 67 (part Tryz.f115 2) (f115_p2_H x1 x2 x3 x4 x6 x14 x13 x15) (f115_p2_x r) (f115_p2_s x1 x2 x3 x4 x6 r)
def f115_p0_H (x1 x2 : Nat) (x3 x4 : Int) (x5 : LL) : GS := ⟨[(0, (.r (.at (.sl 13 x1 x2)))), (1, (GI x3)), (8, (.r (.at (.int .i64 (w64 (x4 - x3)))))), (17, (.r (.at (.bool (decide ((w64 (x4 - x3)) ≥ 8))))))], [(13, (.gr (.list (.int .i64)) 23 x5 true))]⟩
def f115_p0_x : (List (List Int)) → GExit := fun y0 => .normal
def f115_p0_s (x1 x2 : Nat) (x3 x4 : Int) (x5 : LL) : (List (List Int)) → GS := fun y0 => ⟨[], [(13, (.gr (.list (.int .i64)) 23 y0 true))]⟩
def f115_p0_P (x1 x2 : Nat) (x3 x4 : Int) (x5 : LL) (r : (List (List Int))) : Prop := Ex cx f115_M 67 (part Tryz.f115 0) (f115_p0_H x1 x2 x3 x4 x5) (f115_p0_x r) (f115_p0_s x1 x2 x3 x4 x5 r)
def f115_v : (List (List Int)) → G := fun y0 => (.r (.at .unit0))
def f115_k0 : (List (List Int)) → List (Nat × Blk) := fun y0 => [(13, (.gr (.list (.int .i64)) 23 y0 true))]
def f115_k (x1 x2 : Nat) (x3 x4 : Int) (x5 : LL) : (List (List Int)) → List (Nat × Blk) := fun y0 => [(13, (.gr (.list (.int .i64)) 23 y0 true))]
def f115_A (x1 x2 : Nat) (x3 x4 : Int) (x5 : LL) : List G := [(.r (.at (.sl 13 x1 x2))), (GI x3), (GI x4), (.r (.at (.fn 60)))]
def f115_K (x1 x2 : Nat) (x3 x4 : Int) (x5 : LL) : List (Nat × Blk) := [(13, (.gr (.list (.int .i64)) 23 x5 true))]
def f115_C (x1 x2 : Nat) (x3 x4 : Int) (x5 : LL) (r : (List (List Int))) : Prop := CallOK cx 115 (f115_A x1 x2 x3 x4 x5) (f115_K x1 x2 x3 x4 x5) [] (f115_v r) (f115_k x1 x2 x3 x4 x5 r)

def f167_M : List Nat := []
def f167_v : (Int × Int × Int) → G := fun (y0, y1, y2) => (.tup [(.at (.int .i64 y0)), (.at (.int .i64 y1))])
def f167_k0 : (Int × Int × Int) → List (Nat × Blk) := fun (y0, y1, y2) => [(15, (.var [.cell (.int .i64 y2)]))]
def f167_k (x1 x2 : Nat) (x3 x4 : Int) (x5 : LL) (x6 : Int) : (Int × Int × Int) → List (Nat × Blk) := fun (y0, y1, y2) => [(15, (.var [.cell (.int .i64 y2)])), (13, (.gr (.list (.int .i64)) 23 x5 true))]
def f167_A (x1 x2 : Nat) (x3 x4 : Int) (x5 : LL) (x6 : Int) : List G := [(.r (.at (.sl 13 x1 x2))), (GI x3), (GI x4), (.r (.at (.ptr 15 0 0))), (.r (.at (.fn 60)))]
def f167_K (x1 x2 : Nat) (x3 x4 : Int) (x5 : LL) (x6 : Int) : List (Nat × Blk) := [(13, (.gr (.list (.int .i64)) 23 x5 true)), (15, (.var [.cell (.int .i64 x6)]))]
def f167_C (x1 x2 : Nat) (x3 x4 : Int) (x5 : LL) (x6 : Int) (r : Int × Int × Int) : Prop := CallOK cx 167 (f167_A x1 x2 x3 x4 x5 x6) (f167_K x1 x2 x3 x4 x5 x6) [] (f167_v r) (f167_k x1 x2 x3 x4 x5 x6 r)

def f144_M : List Nat := []
def f144_v : (Int × Int) → G := fun (y0, y1) => (GI y0)
def f144_k0 : (Int × Int) → List (Nat × Blk) := fun (y0, y1) => [(15, (.var [.cell (.int .i64 y1)]))]
def f144_k (x1 x2 : Nat) (x3 x4 x5 : Int) (x6 : LL) (x7 : Int) : (Int × Int) → List (Nat × Blk) := fun (y0, y1) => [(15, (.var [.cell (.int .i64 y1)])), (13, (.gr (.list (.int .i64)) 23 x6 true))]
def f144_A (x1 x2 : Nat) (x3 x4 x5 : Int) (x6 : LL) (x7 : Int) : List G := [(.r (.at (.sl 13 x1 x2))), (GI x3), (GI x4), (GI x5), (.r (.at (.ptr 15 0 0))), (.r (.at (.fn 60)))]
def f144_K (x1 x2 : Nat) (x3 x4 x5 : Int) (x6 : LL) (x7 : Int) : List (Nat × Blk) := [(13, (.gr (.list (.int .i64)) 23 x6 true)), (15, (.var [.cell (.int .i64 x7)]))]
def f144_C (x1 x2 : Nat) (x3 x4 x5 : Int) (x6 : LL) (x7 : Int) (r : Int × Int) : Prop := CallOK cx 144 (f144_A x1 x2 x3 x4 x5 x6 x7) (f144_K x1 x2 x3 x4 x5 x6 x7) [] (f144_v r) (f144_k x1 x2 x3 x4 x5 x6 x7 r)

def f116_M : List Nat := [15]
def f116_p1_H (x1 x2 : Nat) (x3 x4 : Int) (x5 : LL) : GS := ⟨[(0, (.r (.at (.sl 13 x1 x2)))), (3, (.r (.at (.fn 60)))), (11, (.r (.at (.ptr 15 0 0)))), (12, (.r (.at (.int .i64 (w64 (x3 + (w64 ((w64 (Int.tdiv (w64 (x4 - x3)) 4)) * 1)))))))), (13, (.r (.at (.int .i64 (w64 (x3 + (w64 ((w64 (Int.tdiv (w64 (x4 - x3)) 4)) * 2)))))))), (14, (.r (.at (.int .i64 (w64 (x3 + (w64 ((w64 (Int.tdiv (w64 (x4 - x3)) 4)) * 3)))))))), (36, (.r (.at (.bool (decide ((w64 (x4 - x3)) ≥ 50))))))], [(13, (.gr (.list (.int .i64)) 23 x5 true)), (15, (.var [.cell (.int .i64 0)]))]⟩
def f116_p1_x : Unit → GExit := fun _ => .normal
def f116_p1_s (x1 x2 : Nat) (x3 x4 : Int) (x5 : LL) : Unit → GS := fun _ => ⟨[(0, (.r (.at (.sl 13 x1 x2)))), (3, (.r (.at (.fn 60)))), (11, (.r (.at (.ptr 15 0 0)))), (12, (.r (.at (.int .i64 (w64 (x3 + (w64 ((w64 (Int.tdiv (w64 (x4 - x3)) 4)) * 1)))))))), (13, (.r (.at (.int .i64 (w64 (x3 + (w64 ((w64 (Int.tdiv (w64 (x4 - x3)) 4)) * 2)))))))), (14, (.r (.at (.int .i64 (w64 (x3 + (w64 ((w64 (Int.tdiv (w64 (x4 - x3)) 4)) * 3))))))))], [(13, (.gr (.list (.int .i64)) 23 x5 true)), (15, (.var [.cell (.int .i64 0)]))]⟩
def f116_p1_P (x1 x2 : Nat) (x3 x4 : Int) (x5 : LL) (r : Unit) : Prop := Ex cx f116_M 63 (part Tryz.f116 1) (f116_p1_H x1 x2 x3 x4 x5) (f116_p1_x r) (f116_p1_s x1 x2 x3 x4 x5 r)
def f116_p0_H (x1 x2 : Nat) (x4 x3 : Int) (x5 : LL) : GS := ⟨[(0, (.r (.at (.sl 13 x1 x2)))), (3, (.r (.at (.fn 60)))), (10, (.r (.at (.int .i64 (w64 (x4 - x3)))))), (11, (.r (.at (.ptr 15 0 0)))), (12, (.r (.at (.int .i64 (w64 (x3 + (w64 ((w64 (Int.tdiv (w64 (x4 - x3)) 4)) * 1)))))))), (13, (.r (.at (.int .i64 (w64 (x3 + (w64 ((w64 (Int.tdiv (w64 (x4 - x3)) 4)) * 2)))))))), (14, (.r (.at (.int .i64 (w64 (x3 + (w64 ((w64 (Int.tdiv (w64 (x4 - x3)) 4)) * 3)))))))), (34, (.r (.at (.bool (decide ((w64 (x4 - x3)) ≥ 8))))))], [(13, (.gr (.list (.int .i64)) 23 x5 true)), (15, (.var [.cell (.int .i64 0)]))]⟩
def f116_p0_x : (Int × Int) → GExit := fun (y0, y1) => .normal
def f116_p0_s (x1 x2 : Nat) (x4 x3 : Int) (x5 : LL) : (Int × Int) → GS := fun (y0, y1) => ⟨[(11, (.r (.at (.ptr 15 0 0)))), (13, (GI y0))], [(13, (.gr (.list (.int .i64)) 23 x5 true)), (15, (.var [.cell (.int .i64 y1)]))]⟩
def f116_p0_P (x1 x2 : Nat) (x4 x3 : Int) (x5 : LL) (r : Int × Int) : Prop := Ex cx f116_M 63 (part Tryz.f116 0) (f116_p0_H x1 x2 x4 x3 x5) (f116_p0_x r) (f116_p0_s x1 x2 x4 x3 x5 r)
def f116_v : (Int × Int) → G := fun (y0, y1) => (.tup [(.at (.int .i64 y0)), (.at (.int .i64 y1))])
def f116_k0 : (Int × Int) → List (Nat × Blk) := fun (y0, y1) => []
def f116_k (x1 x2 : Nat) (x3 x4 : Int) (x5 : LL) : (Int × Int) → List (Nat × Blk) := fun (y0, y1) => [(13, (.gr (.list (.int .i64)) 23 x5 true))]
def f116_A (x1 x2 : Nat) (x3 x4 : Int) (x5 : LL) : List G := [(.r (.at (.sl 13 x1 x2))), (GI x3), (GI x4), (.r (.at (.fn 60)))]
def f116_K (x1 x2 : Nat) (x3 x4 : Int) (x5 : LL) : List (Nat × Blk) := [(13, (.gr (.list (.int .i64)) 23 x5 true))]
def f116_C (x1 x2 : Nat) (x3 x4 : Int) (x5 : LL) (r : Int × Int) : Prop := CallOK cx 116 (f116_A x1 x2 x3 x4 x5) (f116_K x1 x2 x3 x4 x5) [] (f116_v r) (f116_k x1 x2 x3 x4 x5 r)

def f118_M : List Nat := []
def f118_p5_H (x1 x2 : Nat) (x3 x4 x7 : Int) (x5 : LL) (x8 : Int) : GS := ⟨[(0, (.r (.at (.sl 13 x1 x2)))), (1, (GI x3)), (2, (GI x4)), (3, (.r (.at (.fn 60)))), (9, (GI x8)), (10, (GI x7))], [(13, (.gr (.list (.int .i64)) 23 x5 true))]⟩
def f118_p5_x : Int → GExit := fun y0 => (.exit 2)
def f118_p5_s (x1 x2 : Nat) (x3 x4 x7 : Int) (x5 : LL) : Int → GS := fun y0 => ⟨[(0, (.r (.at (.sl 13 x1 x2)))), (1, (GI x3)), (2, (GI x4)), (3, (.r (.at (.fn 60)))), (9, (GI y0)), (10, (GI x7))], [(13, (.gr (.list (.int .i64)) 23 x5 true))]⟩
def f118_p5_P (x1 x2 : Nat) (x3 x4 x7 : Int) (x5 : LL) (x8 : Int) (r : Int) : Prop := Lp cx f118_M 141 (part Tryz.f118 5) (f118_p5_H x1 x2 x3 x4 x7 x5 x8) (f118_p5_x r) (f118_p5_s x1 x2 x3 x4 x7 x5 r)
def f118_p1_H (x1 x2 : Nat) (x3 x4 : Int) (x5 : LL) (x6 x7 : Int) : GS := ⟨[(0, (.r (.at (.sl 13 x1 x2)))), (1, (GI x3)), (2, (GI x4)), (3, (.r (.at (.fn 60)))), (9, (GI x6)), (10, (GI x7))], [(13, (.gr (.list (.int .i64)) 23 x5 true))]⟩
def f118_p1_x : f118_p1_R → GExit := fun
 | .c0 y0 => .ret
 | .c1 => (.exit 0)
def f118_p1_s (x1 x2 : Nat) (x3 x4 : Int) (x5 : LL) : f118_p1_R → GS := fun
 | .c0 y0 => ⟨[(8, (GB y0))], [(13, (.gr (.list (.int .i64)) 23 x5 true))]⟩
 | .c1 => ⟨[], [(13, (.gr (.list (.int .i64)) 23 x5 true))]⟩
def f118_p1_P (x1 x2 : Nat) (x3 x4 : Int) (x5 : LL) (x6 x7 : Int) (r : f118_p1_R) : Prop := Lp cx f118_M 141 (part Tryz.f118 1) (f118_p1_H x1 x2 x3 x4 x5 x6 x7) (f118_p1_x r) (f118_p1_s x1 x2 x3 x4 x5 r)
def f118_v : Bool → G := fun y0 => (GB y0)
def f118_k0 : Bool → List (Nat × Blk) := fun y0 => []
def f118_k (x1 x2 : Nat) (x3 x4 : Int) (x5 : LL) : Bool → List (Nat × Blk) := fun y0 => [(13, (.gr (.list (.int .i64)) 23 x5 true))]
def f118_A (x1 x2 : Nat) (x3 x4 : Int) (x5 : LL) : List G := [(.r (.at (.sl 13 x1 x2))), (GI x3), (GI x4), (.r (.at (.fn 60)))]
def f118_K (x1 x2 : Nat) (x3 x4 : Int) (x5 : LL) : List (Nat × Blk) := [(13, (.gr (.list (.int .i64)) 23 x5 true))]
def f118_C (x1 x2 : Nat) (x3 x4 : Int) (x5 : LL) (r : Bool) : Prop := CallOK cx 118 (f118_A x1 x2 x3 x4 x5) (f118_K x1 x2 x3 x4 x5) [] (f118_v r) (f118_k x1 x2 x3 x4 x5 r)

def f119_M : List Nat := []
def f119_p4_1_H (x1 x2 : Nat) (x3 x25 : Int) (x23 : LL) (x26 : Int) : GS := ⟨[(0, (.r (.at (.sl 13 x1 x2)))), (1, (GI x3)), (4, (.r (.at (.fn 60)))), (11, (GI x26)), (12, (GI x25))], [(13, (.gr (.list (.int .i64)) 23 x23 true))]⟩
def f119_p4_1_x : Int → GExit := fun y0 => (.exit 2)
def f119_p4_1_s (x1 x2 : Nat) (x3 x25 : Int) (x23 : LL) : Int → GS := fun y0 => ⟨[(0, (.r (.at (.sl 13 x1 x2)))), (1, (GI x3)), (4, (.r (.at (.fn 60)))), (11, (GI y0)), (12, (GI x25))], [(13, (.gr (.list (.int .i64)) 23 x23 true))]⟩
def f119_p4_1_P (x1 x2 : Nat) (x3 x25 : Int) (x23 : LL) (x26 : Int) (r : Int) : Prop := Lp cx f119_M 90 (part Tryz.f119 4) (f119_p4_1_H x1 x2 x3 x25 x23 x26) (f119_p4_1_x r) (f119_p4_1_s x1 x2 x3 x25 x23 r)
def f119_p8_1_H (x1 x2 : Nat) (x3 x30 : Int) (x23 : LL) (x31 : Int) : GS := ⟨[(0, (.r (.at (.sl 13 x1 x2)))), (1, (GI x3)), (4, (.r (.at (.fn 60)))), (11, (GI x30)), (12, (GI x31))], [(13, (.gr (.list (.int .i64)) 23 x23 true))]⟩
def f119_p8_1_x : Int → GExit := fun y0 => (.exit 4)
def f119_p8_1_s (x1 x2 : Nat) (x3 x30 : Int) (x23 : LL) : Int → GS := fun y0 => ⟨[(0, (.r (.at (.sl 13 x1 x2)))), (1, (GI x3)), (4, (.r (.at (.fn 60)))), (11, (GI x30)), (12, (GI y0))], [(13, (.gr (.list (.int .i64)) 23 x23 true))]⟩
def f119_p8_1_P (x1 x2 : Nat) (x3 x30 : Int) (x23 : LL) (x31 : Int) (r : Int) : Prop := Lp cx f119_M 90 (part Tryz.f119 8) (f119_p8_1_H x1 x2 x3 x30 x23 x31) (f119_p8_1_x r) (f119_p8_1_s x1 x2 x3 x30 x23 r)
def f119_p1_H (x1 x2 : Nat) (x3 x24 x25 : Int) (x23 : LL) : GS := ⟨[(0, (.r (.at (.sl 13 x1 x2)))), (1, (GI x3)), (4, (.r (.at (.fn 60)))), (11, (GI x24)), (12, (GI x25))], [(13, (.gr (.list (.int .i64)) 23 x23 true))]⟩
def f119_p1_x : (Int × (List (List Int))) → GExit := fun (y0, y1) => (.exit 0)
def f119_p1_s (x1 x2 : Nat) (x3 : Int) : (Int × (List (List Int))) → GS := fun (y0, y1) => ⟨[(11, (GI y0))], [(13, (.gr (.list (.int .i64)) 23 y1 true))]⟩
def f119_p1_P (x1 x2 : Nat) (x3 x24 x25 : Int) (x23 : LL) (r : Int × (List (List Int))) : Prop := Lp cx f119_M 90 (part Tryz.f119 1) (f119_p1_H x1 x2 x3 x24 x25 x23) (f119_p1_x r) (f119_p1_s x1 x2 x3 r)
def f119_v : (Int × (List (List Int))) → G := fun (y0, y1) => (GI y0)
def f119_k0 : (Int × (List (List Int))) → List (Nat × Blk) := fun (y0, y1) => [(13, (.gr (.list (.int .i64)) 23 y1 true))]
def f119_k (x1 x2 : Nat) (x3 x4 x5 : Int) (x6 : LL) : (Int × (List (List Int))) → List (Nat × Blk) := fun (y0, y1) => [(13, (.gr (.list (.int .i64)) 23 y1 true))]
def f119_A (x1 x2 : Nat) (x3 x4 x5 : Int) (x6 : LL) : List G := [(.r (.at (.sl 13 x1 x2))), (GI x3), (GI x4), (GI x5), (.r (.at (.fn 60)))]
def f119_K (x1 x2 : Nat) (x3 x4 x5 : Int) (x6 : LL) : List (Nat × Blk) := [(13, (.gr (.list (.int .i64)) 23 x6 true))]
def f119_C (x1 x2 : Nat) (x3 x4 x5 : Int) (x6 : LL) (r : Int × (List (List Int))) : Prop := CallOK cx 119 (f119_A x1 x2 x3 x4 x5 x6) (f119_K x1 x2 x3 x4 x5 x6) [] (f119_v r) (f119_k x1 x2 x3 x4 x5 x6 r)

def f120_M : List Nat := []
def f120_p1_H (x1 x2 : Nat) (x3 x4 : Int) (x6 : LL) (x7 : LI) (x5 : Int) (x8 : LI) (x9 : Int) : GS := ⟨[(0, (.r (.at (.sl 13 x1 x2)))), (1, (GI x3)), (4, (.r (.at (.fn 60)))), (12, (GI x9)), (13, (.r (.at (.int .i64 (w64 (x4 - 1))))))], [(13, (.gr (.list (.int .i64)) 23 ((List.set (List.set x6 (x1 + (Int.toNat x3)) x7) (x1 + (Int.toNat x5)) x8) : List (List Int)) true))]⟩
def f120_p1_x : Int → GExit := fun y0 => (.exit 0)
def f120_p1_s (x1 x2 : Nat) (x3 x4 : Int) (x6 : LL) (x7 : LI) (x5 : Int) (x8 : LI) : Int → GS := fun y0 => ⟨[(0, (.r (.at (.sl 13 x1 x2)))), (1, (GI x3)), (4, (.r (.at (.fn 60)))), (12, (GI y0)), (13, (.r (.at (.int .i64 (w64 (x4 - 1))))))], [(13, (.gr (.list (.int .i64)) 23 ((List.set (List.set x6 (x1 + (Int.toNat x3)) x7) (x1 + (Int.toNat x5)) x8) : List (List Int)) true))]⟩
def f120_p1_P (x1 x2 : Nat) (x3 x4 : Int) (x6 : LL) (x7 : LI) (x5 : Int) (x8 : LI) (x9 : Int) (r : Int) : Prop := Lp cx f120_M 178 (part Tryz.f120 1) (f120_p1_H x1 x2 x3 x4 x6 x7 x5 x8 x9) (f120_p1_x r) (f120_p1_s x1 x2 x3 x4 x6 x7 x5 x8 r)
def f120_p5_H (x1 x2 : Nat) (x3 x13 : Int) (x6 : LL) (x7 : LI) (x5 : Int) (x8 : LI) (x14 : Int) : GS := ⟨[(0, (.r (.at (.sl 13 x1 x2)))), (1, (GI x3)), (4, (.r (.at (.fn 60)))), (12, (GI x13)), (13, (GI x14))], [(13, (.gr (.list (.int .i64)) 23 ((List.set (List.set x6 (x1 + (Int.toNat x3)) x7) (x1 + (Int.toNat x5)) x8) : List (List Int)) true))]⟩
def f120_p5_x : Int → GExit := fun y0 => (.exit 2)
def f120_p5_s (x1 x2 : Nat) (x3 x13 : Int) (x6 : LL) (x7 : LI) (x5 : Int) (x8 : LI) : Int → GS := fun y0 => ⟨[(0, (.r (.at (.sl 13 x1 x2)))), (1, (GI x3)), (4, (.r (.at (.fn 60)))), (12, (GI x13)), (13, (GI y0))], [(13, (.gr (.list (.int .i64)) 23 ((List.set (List.set x6 (x1 + (Int.toNat x3)) x7) (x1 + (Int.toNat x5)) x8) : List (List Int)) true))]⟩
def f120_p5_P (x1 x2 : Nat) (x3 x13 : Int) (x6 : LL) (x7 : LI) (x5 : Int) (x8 : LI) (x14 : Int) (r : Int) : Prop := Lp cx f120_M 178 (part Tryz.f120 5) (f120_p5_H x1 x2 x3 x13 x6 x7 x5 x8 x14) (f120_p5_x r) (f120_p5_s x1 x2 x3 x13 x6 x7 x5 x8 r)
def f120_p13_1_H (x1 x2 : Nat) (x3 x39 : Int) (x37 : LL) (x40 : Int) : GS := ⟨[(0, (.r (.at (.sl 13 x1 x2)))), (1, (GI x3)), (4, (.r (.at (.fn 60)))), (12, (GI x40)), (13, (GI x39))], [(13, (.gr (.list (.int .i64)) 23 x37 true))]⟩
def f120_p13_1_x : Int → GExit := fun y0 => (.exit 6)
def f120_p13_1_s (x1 x2 : Nat) (x3 x39 : Int) (x37 : LL) : Int → GS := fun y0 => ⟨[(0, (.r (.at (.sl 13 x1 x2)))), (1, (GI x3)), (4, (.r (.at (.fn 60)))), (12, (GI y0)), (13, (GI x39))], [(13, (.gr (.list (.int .i64)) 23 x37 true))]⟩
def f120_p13_1_P (x1 x2 : Nat) (x3 x39 : Int) (x37 : LL) (x40 : Int) (r : Int) : Prop := Lp cx f120_M 178 (part Tryz.f120 13) (f120_p13_1_H x1 x2 x3 x39 x37 x40) (f120_p13_1_x r) (f120_p13_1_s x1 x2 x3 x39 x37 r)
def f120_p17_1_H (x1 x2 : Nat) (x3 x44 : Int) (x37 : LL) (x45 : Int) : GS := ⟨[(0, (.r (.at (.sl 13 x1 x2)))), (1, (GI x3)), (4, (.r (.at (.fn 60)))), (12, (GI x44)), (13, (GI x45))], [(13, (.gr (.list (.int .i64)) 23 x37 true))]⟩
def f120_p17_1_x : Int → GExit := fun y0 => (.exit 8)
def f120_p17_1_s (x1 x2 : Nat) (x3 x44 : Int) (x37 : LL) : Int → GS := fun y0 => ⟨[(0, (.r (.at (.sl 13 x1 x2)))), (1, (GI x3)), (4, (.r (.at (.fn 60)))), (12, (GI x44)), (13, (GI y0))], [(13, (.gr (.list (.int .i64)) 23 x37 true))]⟩
def f120_p17_1_P (x1 x2 : Nat) (x3 x44 : Int) (x37 : LL) (x45 : Int) (r : Int) : Prop := Lp cx f120_M 178 (part Tryz.f120 17) (f120_p17_1_H x1 x2 x3 x44 x37 x45) (f120_p17_1_x r) (f120_p17_1_s x1 x2 x3 x44 x37 r)
def f120_p10_H (x1 x2 : Nat) (x3 x38 x39 : Int) (x37 : LL) : GS := ⟨[(0, (.r (.at (.sl 13 x1 x2)))), (1, (GI x3)), (4, (.r (.at (.fn 60)))), (12, (GI x38)), (13, (GI x39))], [(13, (.gr (.list (.int .i64)) 23 x37 true))]⟩
def f120_p10_x : (Int × (List (List Int))) → GExit := fun (y0, y1) => (.exit 4)
def f120_p10_s (x1 x2 : Nat) (x3 : Int) : (Int × (List (List Int))) → GS := fun (y0, y1) => ⟨[(0, (.r (.at (.sl 13 x1 x2)))), (1, (GI x3)), (13, (GI y0))], [(13, (.gr (.list (.int .i64)) 23 y1 true))]⟩
def f120_p10_P (x1 x2 : Nat) (x3 x38 x39 : Int) (x37 : LL) (r : Int × (List (List Int))) : Prop := Lp cx f120_M 178 (part Tryz.f120 10) (f120_p10_H x1 x2 x3 x38 x39 x37) (f120_p10_x r) (f120_p10_s x1 x2 x3 r)
def f120_v : (Int × Bool × (List (List Int))) → G := fun (y0, y1, y2) => (.tup [(.at (.int .i64 y0)), (.at (.bool y1))])
def f120_k0 : (Int × Bool × (List (List Int))) → List (Nat × Blk) := fun (y0, y1, y2) => [(13, (.gr (.list (.int .i64)) 23 y2 true))]
def f120_k (x1 x2 : Nat) (x3 x4 x5 : Int) (x6 : LL) : (Int × Bool × (List (List Int))) → List (Nat × Blk) := fun (y0, y1, y2) => [(13, (.gr (.list (.int .i64)) 23 y2 true))]
def f120_A (x1 x2 : Nat) (x3 x4 x5 : Int) (x6 : LL) : List G := [(.r (.at (.sl 13 x1 x2))), (GI x3), (GI x4), (GI x5), (.r (.at (.fn 60)))]
def f120_K (x1 x2 : Nat) (x3 x4 x5 : Int) (x6 : LL) : List (Nat × Blk) := [(13, (.gr (.list (.int .i64)) 23 x6 true))]
def f120_C (x1 x2 : Nat) (x3 x4 x5 : Int) (x6 : LL) (r : Int × Bool × (List (List Int))) : Prop := CallOK cx 120 (f120_A x1 x2 x3 x4 x5 x6) (f120_K x1 x2 x3 x4 x5 x6) [] (f120_v r) (f120_k x1 x2 x3 x4 x5 x6 r)

def f93_M : List Nat := []
def f93_p5_1_H (x1 x2 : Nat) (x27 x28 x29 : Int) (x30 x31 : Bool) (x26 : LL) : GS := ⟨[(0, (.r (.at (.sl 13 x1 x2)))), (1, (GI x27)), (2, (GI x28)), (3, (GI x29)), (4, (.r (.at (.fn 60)))), (10, (GB x30)), (11, (GB x31)), (12, (.r (.at (.int .i64 (w64 (x28 - x27)))))), (39, (.r (.at (.bool (!x30)))))], [(13, (.gr (.list (.int .i64)) 23 x26 true))]⟩
def f93_p5_1_x : (Int × (List (List Int))) → GExit := fun (y0, y1) => .normal
def f93_p5_1_s (x1 x2 : Nat) (x27 x28 x29 : Int) (x30 x31 : Bool) (x26 : LL) : (Int × (List (List Int))) → GS := fun (y0, y1) => ⟨[(0, (.r (.at (.sl 13 x1 x2)))), (1, (GI x27)), (2, (GI x28)), (3, (GI y0)), (4, (.r (.at (.fn 60)))), (10, (GB x30)), (11, (GB x31)), (12, (.r (.at (.int .i64 (w64 (x28 - x27))))))], [(13, (.gr (.list (.int .i64)) 23 y1 true))]⟩
def f93_p5_1_P (x1 x2 : Nat) (x27 x28 x29 : Int) (x30 x31 : Bool) (x26 : LL) (r : Int × (List (List Int))) : Prop := Ex cx f93_M 148 (part Tryz.f93 5) (f93_p5_1_H x1 x2 x27 x28 x29 x30 x31 x26) (f93_p5_1_x r) (f93_p5_1_s x1 x2 x27 x28 x29 x30 x31 x26 r)
def f93_p6_1_H (x1 x2 : Nat) (x27 x28 x34 : Int) (x30 x31 : Bool) (x36 x37 : Int) (x35 : LL) : GS := ⟨[(0, (.r (.at (.sl 13 x1 x2)))), (1, (GI x27)), (2, (GI x28)), (3, (GI x34)), (4, (.r (.at (.fn 60)))), (10, (GB x30)), (11, (GB x31)), (12, (.r (.at (.int .i64 (w64 (x28 - x27)))))), (13, (GI x36)), (14, (GI x37)), (56, (.r (.at (.bool (x37 == 2)))))], [(13, (.gr (.list (.int .i64)) 23 x35 true))]⟩
def f93_p6_1_x : Unit → GExit := fun _ => .normal
def f93_p6_1_s (x1 x2 : Nat) (x27 x28 x34 : Int) (x30 x31 : Bool) (x36 x37 : Int) (x35 : LL) : Unit → GS := fun _ => ⟨[(0, (.r (.at (.sl 13 x1 x2)))), (1, (GI x27)), (2, (GI x28)), (3, (GI x34)), (4, (.r (.at (.fn 60)))), (10, (GB x30)), (11, (GB x31)), (12, (.r (.at (.int .i64 (w64 (x28 - x27)))))), (13, (GI x36)), (14, (GI x37))], [(13, (.gr (.list (.int .i64)) 23 x35 true))]⟩
def f93_p6_1_P (x1 x2 : Nat) (x27 x28 x34 : Int) (x30 x31 : Bool) (x36 x37 : Int) (x35 : LL) (r : Unit) : Prop := Ex cx f93_M 148 (part Tryz.f93 6) (f93_p6_1_H x1 x2 x27 x28 x34 x30 x31 x36 x37 x35) (f93_p6_1_x r) (f93_p6_1_s x1 x2 x27 x28 x34 x30 x31 x36 x37 x35 r)
def f93_r15_1_H (x1 x2 : Nat) (x27 x28 x34 : Int) (x30 x31 : Bool) (x36 x37 : Int) (x35 : LL) : GS := ⟨[(0, (.r (.at (.sl 13 x1 x2)))), (1, (GI x27)), (2, (GI x28)), (3, (GI x34)), (4, (.r (.at (.fn 60)))), (10, (GB x30)), (11, (GB x31)), (12, (.r (.at (.int .i64 (w64 (x28 - x27)))))), (13, (GI x36)), (14, (GI x37))], [(13, (.gr (.list (.int .i64)) 23 x35 true))]⟩
def f93_r15_1_x : Bool → GExit := fun y0 => .normal
def f93_r15_1_s (x1 x2 : Nat) (x27 x28 x34 : Int) (x30 x31 : Bool) (x36 x37 : Int) (x35 : LL) : Bool → GS := fun y0 => ⟨[(0, (.r (.at (.sl 13 x1 x2)))), (1, (GI x27)), (2, (GI x28)), (3, (GI x34)), (4, (.r (.at (.fn 60)))), (10, (GB x30)), (11, (GB x31)), (12, (.r (.at (.int .i64 (w64 (x28 - x27)))))), (13, (GI x36)), (75, (GB y0))], [(13, (.gr (.list (.int .i64)) 23 x35 true))]⟩
def f93_r15_1_P (x1 x2 : Nat) (x27 x28 x34 : Int) (x30 x31 : Bool) (x36 x37 : Int) (x35 : LL) (r : Bool) : Prop := Ex cx f93_M 148 (rgnF 15 Tryz.f93) (f93_r15_1_H x1 x2 x27 x28 x34 x30 x31 x36 x37 x35) (f93_r15_1_x r) (f93_r15_1_s x1 x2 x27 x28 x34 x30 x31 x36 x37 x35 r)
def f93_p7_1_H (x1 x2 : Nat) (x27 x28 x34 : Int) (x30 x31 : Bool) (x36 : Int) (x38 : Bool) (x35 : LL) : GS := ⟨[(0, (.r (.at (.sl 13 x1 x2)))), (1, (GI x27)), (2, (GI x28)), (3, (GI x34)), (4, (.r (.at (.fn 60)))), (10, (GB x30)), (11, (GB x31)), (12, (.r (.at (.int .i64 (w64 (x28 - x27)))))), (13, (GI x36)), (75, (GB x38))], [(13, (.gr (.list (.int .i64)) 23 x35 true))]⟩
def f93_p7_1_x : f93_p7_1_R → GExit := fun
 | .c0 => .ret
 | .c1 => .normal
def f93_p7_1_s (x1 x2 : Nat) (x27 x28 x34 : Int) (x30 x31 : Bool) (x36 : Int) (x38 : Bool) (x35 : LL) : f93_p7_1_R → GS := fun
 | .c0 => ⟨[], [(13, (.gr (.list (.int .i64)) 23 x35 true))]⟩
 | .c1 => ⟨[(0, (.r (.at (.sl 13 x1 x2)))), (1, (GI x27)), (2, (GI x28)), (3, (GI x34)), (4, (.r (.at (.fn 60)))), (10, (GB x30)), (11, (GB x31)), (12, (.r (.at (.int .i64 (w64 (x28 - x27)))))), (13, (GI x36))], [(13, (.gr (.list (.int .i64)) 23 x35 true))]⟩
def f93_p7_1_P (x1 x2 : Nat) (x27 x28 x34 : Int) (x30 x31 : Bool) (x36 : Int) (x38 : Bool) (x35 : LL) (r : f93_p7_1_R) : Prop := Ex cx f93_M 148 (part Tryz.f93 7) (f93_p7_1_H x1 x2 x27 x28 x34 x30 x31 x36 x38 x35) (f93_p7_1_x r) (f93_p7_1_s x1 x2 x27 x28 x34 x30 x31 x36 x38 x35 r)
def f93_r17_1_H (x1 x2 : Nat) (x27 x28 x34 : Int) (x30 x31 : Bool) (x36 : Int) (x35 : LL) : GS := ⟨[(0, (.r (.at (.sl 13 x1 x2)))), (1, (GI x27)), (2, (GI x28)), (3, (GI x34)), (4, (.r (.at (.fn 60)))), (10, (GB x30)), (11, (GB x31)), (12, (.r (.at (.int .i64 (w64 (x28 - x27)))))), (13, (GI x36))], [(13, (.gr (.list (.int .i64)) 23 x35 true))]⟩
def f93_r17_1_x : Bool → GExit := fun y0 => .normal
def f93_r17_1_s (x1 x2 : Nat) (x27 x28 x34 : Int) (x30 x31 : Bool) (x36 : Int) (x35 : LL) : Bool → GS := fun y0 => ⟨[(0, (.r (.at (.sl 13 x1 x2)))), (1, (GI x27)), (2, (GI x28)), (3, (GI x34)), (4, (.r (.at (.fn 60)))), (10, (GB x30)), (11, (GB x31)), (12, (.r (.at (.int .i64 (w64 (x28 - x27)))))), (13, (GI x36)), (97, (GB y0))], [(13, (.gr (.list (.int .i64)) 23 x35 true))]⟩
def f93_r17_1_P (x1 x2 : Nat) (x27 x28 x34 : Int) (x30 x31 : Bool) (x36 : Int) (x35 : LL) (r : Bool) : Prop := Ex cx f93_M 148 (rgnF 17 Tryz.f93) (f93_r17_1_H x1 x2 x27 x28 x34 x30 x31 x36 x35) (f93_r17_1_x r) (f93_r17_1_s x1 x2 x27 x28 x34 x30 x31 x36 x35 r)
def f93_p10_H (x1 x2 : Nat) (x27 x28 x34 : Int) (x47 : Bool) (x46 : Int) (x48 : LL) : GS := ⟨[(0, (.r (.at (.sl 13 x1 x2)))), (1, (GI x27)), (2, (GI x28)), (3, (GI x34)), (4, (.r (.at (.fn 60)))), (11, (GB x47)), (16, (GI x46)), (18, (.r (.at (.int .i64 (w64 (x46 - x27)))))), (19, (.r (.at (.int .i64 (w64 (x28 - x46)))))), (20, (.r (.at (.int .i64 (w64 (Int.tdiv (w64 (x28 - x27)) 8)))))), (125, (.r (.at (.bool (decide ((w64 (x46 - x27)) < (w64 (x28 - x46))))))))], [(13, (.gr (.list (.int .i64)) 23 x48 true))]⟩
def f93_p10_x : (Int × Int × Bool × (List (List Int))) → GExit := fun (y0, y1, y2, y3) => .normal
def f93_p10_s (x1 x2 : Nat) (x27 x28 x34 : Int) (x47 : Bool) (x46 : Int) (x48 : LL) : (Int × Int × Bool × (List (List Int))) → GS := fun (y0, y1, y2, y3) => ⟨[(0, (.r (.at (.sl 13 x1 x2)))), (1, (GI y0)), (2, (GI y1)), (3, (GI x34)), (4, (.r (.at (.fn 60)))), (10, (GB y2)), (11, (GB x47))], [(13, (.gr (.list (.int .i64)) 23 y3 true))]⟩
def f93_p10_P (x1 x2 : Nat) (x27 x28 x34 : Int) (x47 : Bool) (x46 : Int) (x48 : LL) (r : Int × Int × Bool × (List (List Int))) : Prop := Ex cx f93_M 148 (part Tryz.f93 10) (f93_p10_H x1 x2 x27 x28 x34 x47 x46 x48) (f93_p10_x r) (f93_p10_s x1 x2 x27 x28 x34 x47 x46 x48 r)
def f93_p1_1_H (x1 x2 : Nat) (x27 x28 x29 : Int) (x30 x31 : Bool) (x26 : LL) : GS := ⟨[(0, (.r (.at (.sl 13 x1 x2)))), (1, (GI x27)), (2, (GI x28)), (3, (GI x29)), (4, (.r (.at (.fn 60)))), (10, (GB x30)), (11, (GB x31))], [(13, (.gr (.list (.int .i64)) 23 x26 true))]⟩
def f93_p1_1_x : (List (List Int)) → GExit := fun y0 => .ret
def f93_p1_1_s (x1 x2 : Nat) : (List (List Int)) → GS := fun y0 => ⟨[], [(13, (.gr (.list (.int .i64)) 23 y0 true))]⟩
def f93_p1_1_P (x1 x2 : Nat) (x27 x28 x29 : Int) (x30 x31 : Bool) (x26 : LL) (r : (List (List Int))) : Prop := Lp cx f93_M 148 (part Tryz.f93 1) (f93_p1_1_H x1 x2 x27 x28 x29 x30 x31 x26) (f93_p1_1_x r) (f93_p1_1_s x1 x2 r)
def f93_v : (List (List Int)) → G := fun y0 => (.r (.at .unit0))
def f93_k0 : (List (List Int)) → List (Nat × Blk) := fun y0 => [(13, (.gr (.list (.int .i64)) 23 y0 true))]
def f93_k (x1 x2 : Nat) (x3 x4 x5 : Int) (x6 : LL) : (List (List Int)) → List (Nat × Blk) := fun y0 => [(13, (.gr (.list (.int .i64)) 23 y0 true))]
def f93_A (x1 x2 : Nat) (x3 x4 x5 : Int) (x6 : LL) : List G := [(.r (.at (.sl 13 x1 x2))), (GI x3), (GI x4), (GI x5), (.r (.at (.fn 60)))]
def f93_K (x1 x2 : Nat) (x3 x4 x5 : Int) (x6 : LL) : List (Nat × Blk) := [(13, (.gr (.list (.int .i64)) 23 x6 true))]
def f93_C (x1 x2 : Nat) (x3 x4 x5 : Int) (x6 : LL) (r : (List (List Int))) : Prop := CallOK cx 93 (f93_A x1 x2 x3 x4 x5 x6) (f93_K x1 x2 x3 x4 x5 x6) [] (f93_v r) (f93_k x1 x2 x3 x4 x5 x6 r)

def f59_M : List Nat := []
def f59_v : (List (List Int)) → G := fun y0 => (.r (.at .unit0))
def f59_k0 : (List (List Int)) → List (Nat × Blk) := fun y0 => [(13, (.gr (.list (.int .i64)) 23 y0 true))]
def f59_k (x1 : LL) : (List (List Int)) → List (Nat × Blk) := fun y0 => [(13, (.gr (.list (.int .i64)) 23 y0 true))]
def f59_A (x1 : LL) : List G := [(.r (.at (.sl 13 0 (List.length x1)))), (.r (.at (.fn 60)))]
def f59_K (x1 : LL) : List (Nat × Blk) := [(13, (.gr (.list (.int .i64)) 23 x1 true))]
def f59_C (x1 : LL) (r : (List (List Int))) : Prop := CallOK cx 59 (f59_A x1) (f59_K x1) [] (f59_v r) (f59_k x1 r)

def f31_M : List Nat := [13]
def f31_v : (List (List Int)) → G := fun y0 => (.r (.at (.lst (.list (.int .i64)) y0 false)))
def f31_k0 : (List (List Int)) → List (Nat × Blk) := fun y0 => []
def f31_k (x1 : LI) : (List (List Int)) → List (Nat × Blk) := fun y0 => []
def f31_A (x1 : LI) : List G := [(.r (.at (.lst (.int .u64) x1 false)))]
def f31_K (x1 : LI) : List (Nat × Blk) := []
def f31_C (x1 : LI) (r : (List (List Int))) : Prop := CallOK cx 31 (f31_A x1) (f31_K x1) [] (f31_v r) (f31_k x1 r)

def f7_M : List Nat := [8]
def f7_v : ((List (List Int)) × Int) → G := fun (y0, y1) => (.tup [(.at (.lst (.list (.int .i64)) y0 false)), (.at (.int .i64 y1))])
def f7_k0 : ((List (List Int)) × Int) → List (Nat × Blk) := fun (y0, y1) => []
def f7_k (x1 : Int) (x2 : LL) : ((List (List Int)) × Int) → List (Nat × Blk) := fun (y0, y1) => []
def f7_A (x1 : Int) (x2 : LL) : List G := [(.r (.agg [.cell (.int .i64 x1), .cell (.lst (.list (.int .i64)) x2 false)]))]
def f7_K (x1 : Int) (x2 : LL) : List (Nat × Blk) := []
def f7_C (x1 : Int) (x2 : LL) (r : (List (List Int)) × Int) : Prop := CallOK cx 7 (f7_A x1 x2) (f7_K x1 x2) [] (f7_v r) (f7_k x1 x2 r)

def f8_M : List Nat := [16]
def f8_v : ((List (List Int)) × Int) → G := fun (y0, y1) => (.tup [(.at (.lst (.list (.int .i64)) y0 false)), (.at (.int .i64 y1))])
def f8_k0 : ((List (List Int)) × Int) → List (Nat × Blk) := fun (y0, y1) => []
def f8_k (x1 : Int) (x2 : LL) : ((List (List Int)) × Int) → List (Nat × Blk) := fun (y0, y1) => []
def f8_A (x1 : Int) (x2 : LL) : List G := [(.r (.agg [.cell (.int .i64 x1), .cell (.lst (.list (.int .i64)) x2 false)]))]
def f8_K (x1 : Int) (x2 : LL) : List (Nat × Blk) := []
def f8_C (x1 : Int) (x2 : LL) (r : (List (List Int)) × Int) : Prop := CallOK cx 8 (f8_A x1 x2) (f8_K x1 x2) [] (f8_v r) (f8_k x1 x2 r)

def f33_M : List Nat := [17]
def f33_p9_1_H (x1 x17 : Int) (x2 : LI) (x16 x22 : Int) (x21 : LI) : GS := ⟨[(0, (GI x1)), (6, (.r (.at (.sl 17 0 (Int.toNat (iShl .i64 1 x1)))))), (7, (GI x17)), (9, (GI x17)), (17, (GL x2)), (18, (.r (.at (.int .i64 (LN x2))))), (19, (GI x16)), (43, (GI x1)), (44, (GI x22))], [(17, (.gr (.int .i64) 3 x21 true))]⟩
def f33_p9_1_x : (List Int) → GExit := fun y0 => (.exit 3)
def f33_p9_1_s (x1 x17 : Int) (x2 : LI) (x16 : Int) : (List Int) → GS := fun y0 => ⟨[(0, (GI x1)), (6, (.r (.at (.sl 17 0 (Int.toNat (iShl .i64 1 x1)))))), (7, (GI x17)), (17, (GL x2)), (18, (.r (.at (.int .i64 (LN x2))))), (19, (GI x16))], [(17, (.gr (.int .i64) 3 y0 true))]⟩
def f33_p9_1_P (x1 x17 : Int) (x2 : LI) (x16 x22 : Int) (x21 : LI) (r : (List Int)) : Prop := Lp cx f33_M 59 (part Tryz.f33 9) (f33_p9_1_H x1 x17 x2 x16 x22 x21) (f33_p9_1_x r) (f33_p9_1_s x1 x17 x2 x16 r)
def f33_p2_H (x1 : Int) (x2 : LI) (x15 x16 : Int) (x14 : LI) : GS := ⟨[(0, (GI x1)), (6, (.r (.at (.sl 17 0 (Int.toNat (iShl .i64 1 x1)))))), (7, (GI x15)), (17, (GL x2)), (18, (.r (.at (.int .i64 (LN x2))))), (19, (GI x16))], [(17, (.gr (.int .i64) 3 x14 true))]⟩
def f33_p2_x : f33_p2_R → GExit := fun
 | .c0 y0 => .ret
 | .c1 y0 => (.exit 0)
def f33_p2_s (x1 : Int) (x2 : LI) : f33_p2_R → GS := fun
 | .c0 y0 => ⟨[(4, (.r (.at .nils))), (5, (GI y0))], []⟩
 | .c1 y0 => ⟨[(6, (.r (.at (.sl 17 0 (Int.toNat (iShl .i64 1 x1))))))], [(17, (.gr (.int .i64) 3 y0 true))]⟩
def f33_p2_P (x1 : Int) (x2 : LI) (x15 x16 : Int) (x14 : LI) (r : f33_p2_R) : Prop := Lp cx f33_M 59 (part Tryz.f33 2) (f33_p2_H x1 x2 x15 x16 x14) (f33_p2_x r) (f33_p2_s x1 x2 r)
def f33_v : ((List Int) × Int) → G := fun (y0, y1) => (.tup [(.at (.lst (.int .i64) y0 false)), (.at (.int .i64 y1))])
def f33_k0 : ((List Int) × Int) → List (Nat × Blk) := fun (y0, y1) => []
def f33_k (x1 : Int) (x2 : LI) : ((List Int) × Int) → List (Nat × Blk) := fun (y0, y1) => []
def f33_A (x1 : Int) (x2 : LI) : List G := [(GI x1), (GL x2)]
def f33_K (x1 : Int) (x2 : LI) : List (Nat × Blk) := []
def f33_C (x1 : Int) (x2 : LI) (r : (List Int) × Int) : Prop := CallOK cx 33 (f33_A x1 x2) (f33_K x1 x2) [] (f33_v r) (f33_k x1 x2 r)

def f9_M : List Nat := []
def f9_v : ((List Int) × Int) → G := fun (y0, y1) => (.tup [(.at (.lst (.int .i64) y0 false)), (.at (.int .i64 y1))])
def f9_k0 : ((List Int) × Int) → List (Nat × Blk) := fun (y0, y1) => []
def f9_k (x1 : Int) (x2 : LI) : ((List Int) × Int) → List (Nat × Blk) := fun (y0, y1) => []
def f9_A (x1 : Int) (x2 : LI) : List G := [(GI x1), (GL x2)]
def f9_K (x1 : Int) (x2 : LI) : List (Nat × Blk) := []
def f9_C (x1 : Int) (x2 : LI) (r : (List Int) × Int) : Prop := CallOK cx 9 (f9_A x1 x2) (f9_K x1 x2) [] (f9_v r) (f9_k x1 x2 r)

def f10_M : List Nat := [18]
def f10_p5_1_H (x7 : LI) (x8 : Int) (x3 : LI) (x9 : Int) : GS := ⟨[(8, (.r (.at (.sl 18 0 (List.length x7))))), (9, (GI x8)), (20, (GL x3)), (21, (.r (.at (.int .i64 (LN x3))))), (22, (GI x8)), (28, (.r (.at (.bool (x9 == 0)))))], [(18, (.gr (.int .i64) 3 x7 true))]⟩
def f10_p5_1_x : (List Int) → GExit := fun y0 => .normal
def f10_p5_1_s (x7 : LI) (x8 : Int) (x3 : LI) (x9 : Int) : (List Int) → GS := fun y0 => ⟨[(8, (.r (.at (.sl 18 0 (List.length y0))))), (20, (GL x3)), (21, (.r (.at (.int .i64 (LN x3))))), (22, (GI x8))], [(18, (.gr (.int .i64) 3 y0 true))]⟩
def f10_p5_1_P (x7 : LI) (x8 : Int) (x3 : LI) (x9 : Int) (r : (List Int)) : Prop := Ex cx f10_M 35 (part Tryz.f10 5) (f10_p5_1_H x7 x8 x3 x9) (f10_p5_1_x r) (f10_p5_1_s x7 x8 x3 x9 r)
def f10_p2_H (x3 : LI) (x8 : Int) (x7 : LI) : GS := ⟨[(8, (.r (.at (.sl 18 0 (List.length x7))))), (20, (GL x3)), (21, (.r (.at (.int .i64 (LN x3))))), (22, (GI x8))], [(18, (.gr (.int .i64) 3 x7 true))]⟩
def f10_p2_x : (List Int) → GExit := fun y0 => (.exit 0)
def f10_p2_s (x3 : LI) : (List Int) → GS := fun y0 => ⟨[(8, (.r (.at (.sl 18 0 (List.length y0)))))], [(18, (.gr (.int .i64) 3 y0 true))]⟩
def f10_p2_P (x3 : LI) (x8 : Int) (x7 : LI) (r : (List Int)) : Prop := Lp cx f10_M 35 (part Tryz.f10 2) (f10_p2_H x3 x8 x7) (f10_p2_x r) (f10_p2_s x3 r)
def f10_v : ((List Int) × Int) → G := fun (y0, y1) => (.tup [(.at (.lst (.int .i64) y0 false)), (.at (.int .i64 y1))])
def f10_k0 : ((List Int) × Int) → List (Nat × Blk) := fun (y0, y1) => []
def f10_k (x1 : Int) (x2 : LI) : ((List Int) × Int) → List (Nat × Blk) := fun (y0, y1) => []
def f10_A (x1 : Int) (x2 : LI) : List G := [(GI x1), (GL x2)]
def f10_K (x1 : Int) (x2 : LI) : List (Nat × Blk) := []
def f10_C (x1 : Int) (x2 : LI) (r : (List Int) × Int) : Prop := CallOK cx 10 (f10_A x1 x2) (f10_K x1 x2) [] (f10_v r) (f10_k x1 x2 r)

def f12_M : List Nat := []
def f12_p2_H (x1 x2 : LI) (x3 : Int) : GS := ⟨[(0, (GL x1)), (1, (GL x2)), (12, (.r (.at (.int .i64 (LN x1))))), (13, (GI x3))], []⟩
def f12_p2_x : f12_p2_R → GExit := fun
 | .c0 => .ret
 | .c1 => (.exit 0)
def f12_p2_s (x1 x2 : LI) : f12_p2_R → GS := fun
 | .c0 => ⟨[(4, (.r (.at (.bool false))))], []⟩
 | .c1 => ⟨[], []⟩
def f12_p2_P (x1 x2 : LI) (x3 : Int) (r : f12_p2_R) : Prop := Lp cx f12_M 26 (part Tryz.f12 2) (f12_p2_H x1 x2 x3) (f12_p2_x r) (f12_p2_s x1 x2 r)
def f12_v : Bool → G := fun y0 => (GB y0)
def f12_k0 : Bool → List (Nat × Blk) := fun y0 => []
def f12_k (x1 x2 : LI) : Bool → List (Nat × Blk) := fun y0 => []
def f12_A (x1 x2 : LI) : List G := [(GL x1), (GL x2)]
def f12_K (x1 x2 : LI) : List (Nat × Blk) := []
def f12_C (x1 x2 : LI) (r : Bool) : Prop := CallOK cx 12 (f12_A x1 x2) (f12_K x1 x2) [] (f12_v r) (f12_k x1 x2 r)

def f11_M : List Nat := []
def f11_v : Bool → G := fun y0 => (GB y0)
def f11_k0 : Bool → List (Nat × Blk) := fun y0 => []
def f11_k (x1 x2 : LI) : Bool → List (Nat × Blk) := fun y0 => [(19, (.var [.cell (.lst (.int .i64) x2 false)]))]
def f11_A (x1 x2 : LI) : List G := [(GL x1), (.r (.at (.ptr 19 0 0)))]
def f11_K (x1 x2 : LI) : List (Nat × Blk) := [(19, (.var [.cell (.lst (.int .i64) x2 false)]))]
def f11_C (x1 x2 : LI) (r : Bool) : Prop := CallOK cx 11 (f11_A x1 x2) (f11_K x1 x2) [] (f11_v r) (f11_k x1 x2 r)

def f34_M : List Nat := []
def f34_p1_H (x1 : LL) (x2 : LI) (x3 : Int) : GS := ⟨[(0, (.r (.at (.lst (.list (.int .i64)) x1 false)))), (1, (.r (.at (.app2 (.fn 11) (.ptr 19 0 0))))), (7, (.r (.at (.int .i64 (LN x1))))), (8, (GI x3))], [(19, (.var [.cell (.lst (.int .i64) x2 false)]))]⟩
def f34_p1_x : f34_p1_R → GExit := fun
 | .c0 y0 => .ret
 | .c1 => (.exit 0)
def f34_p1_s (x1 : LL) (x2 : LI) : f34_p1_R → GS := fun
 | .c0 y0 => ⟨[(4, (GI y0))], [(19, (.var [.cell (.lst (.int .i64) x2 false)]))]⟩
 | .c1 => ⟨[], [(19, (.var [.cell (.lst (.int .i64) x2 false)]))]⟩
def f34_p1_P (x1 : LL) (x2 : LI) (x3 : Int) (r : f34_p1_R) : Prop := Lp cx f34_M 19 (part Tryz.f34 1) (f34_p1_H x1 x2 x3) (f34_p1_x r) (f34_p1_s x1 x2 r)
def f34_v : Int → G := fun y0 => (GI y0)
def f34_k0 : Int → List (Nat × Blk) := fun y0 => []
def f34_k (x1 : LL) (x2 : LI) : Int → List (Nat × Blk) := fun y0 => [(19, (.var [.cell (.lst (.int .i64) x2 false)]))]
def f34_A (x1 : LL) (x2 : LI) : List G := [(.r (.at (.lst (.list (.int .i64)) x1 false))), (.r (.at (.app2 (.fn 11) (.ptr 19 0 0))))]
def f34_K (x1 : LL) (x2 : LI) : List (Nat × Blk) := [(19, (.var [.cell (.lst (.int .i64) x2 false)]))]
def f34_C (x1 : LL) (x2 : LI) (r : Int) : Prop := CallOK cx 34 (f34_A x1 x2) (f34_K x1 x2) [] (f34_v r) (f34_k x1 x2 r)

def f13_M : List Nat := []
def f13_v : Bool → G := fun y0 => (GB y0)
def f13_k0 : Bool → List (Nat × Blk) := fun y0 => []
def f13_k (x1 : LL) (x2 : LI) : Bool → List (Nat × Blk) := fun y0 => [(19, (.var [.cell (.lst (.int .i64) x2 false)]))]
def f13_A (x1 : LL) (x2 : LI) : List G := [(.r (.at (.lst (.list (.int .i64)) x1 false))), (.r (.at (.app2 (.fn 11) (.ptr 19 0 0))))]
def f13_K (x1 : LL) (x2 : LI) : List (Nat × Blk) := [(19, (.var [.cell (.lst (.int .i64) x2 false)]))]
def f13_C (x1 : LL) (x2 : LI) (r : Bool) : Prop := CallOK cx 13 (f13_A x1 x2) (f13_K x1 x2) [] (f13_v r) (f13_k x1 x2 r)

def f35_M : List Nat := []
def f35_p1_H (x1 : LI) (x2 x3 : Int) : GS := ⟨[(0, (GL x1)), (1, (GI x2)), (7, (.r (.at (.int .i64 (LN x1))))), (8, (GI x3))], []⟩
def f35_p1_x : f35_p1_R → GExit := fun
 | .c0 y0 => .ret
 | .c1 => (.exit 0)
def f35_p1_s (x1 : LI) (x2 : Int) : f35_p1_R → GS := fun
 | .c0 y0 => ⟨[(4, (GI y0))], []⟩
 | .c1 => ⟨[], []⟩
def f35_p1_P (x1 : LI) (x2 x3 : Int) (r : f35_p1_R) : Prop := Lp cx f35_M 19 (part Tryz.f35 1) (f35_p1_H x1 x2 x3) (f35_p1_x r) (f35_p1_s x1 x2 r)
def f35_v : Int → G := fun y0 => (GI y0)
def f35_k0 : Int → List (Nat × Blk) := fun y0 => []
def f35_k (x1 : LI) (x2 : Int) : Int → List (Nat × Blk) := fun y0 => []
def f35_A (x1 : LI) (x2 : Int) : List G := [(GL x1), (GI x2)]
def f35_K (x1 : LI) (x2 : Int) : List (Nat × Blk) := []
def f35_C (x1 : LI) (x2 : Int) (r : Int) : Prop := CallOK cx 35 (f35_A x1 x2) (f35_K x1 x2) [] (f35_v r) (f35_k x1 x2 r)

def f14_M : List Nat := []
def f14_v : Bool → G := fun y0 => (GB y0)
def f14_k0 : Bool → List (Nat × Blk) := fun y0 => []
def f14_k (x1 : LI) (x2 : Int) : Bool → List (Nat × Blk) := fun y0 => []
def f14_A (x1 : LI) (x2 : Int) : List G := [(GL x1), (GI x2)]
def f14_K (x1 : LI) (x2 : Int) : List (Nat × Blk) := []
def f14_C (x1 : LI) (x2 : Int) (r : Bool) : Prop := CallOK cx 14 (f14_A x1 x2) (f14_K x1 x2) [] (f14_v r) (f14_k x1 x2 r)

def f36_M : List Nat := []
def f36_v : (List Int) → G := fun y0 => (GL y0)
def f36_k0 : (List Int) → List (Nat × Blk) := fun y0 => []
def f36_k (x1 : LI) : (List Int) → List (Nat × Blk) := fun y0 => []
def f36_A (x1 : LI) : List G := [(GL x1)]
def f36_K (x1 : LI) : List (Nat × Blk) := []
def f36_C (x1 : LI) (r : (List Int)) : Prop := CallOK cx 36 (f36_A x1) (f36_K x1) [] (f36_v r) (f36_k x1 r)

def f95_M : List Nat := []
def f95_v : (Int × Int) → G := fun (y0, y1) => (.tup [(.at (.int .u64 y0)), (.at (.int .i64 y1))])
def f95_k0 : (Int × Int) → List (Nat × Blk) := fun (y0, y1) => []
def f95_k (x1 : Int) (x2 : LI) : (Int × Int) → List (Nat × Blk) := fun (y0, y1) => []
def f95_A (x1 : Int) (x2 : LI) : List G := [(GI x1), (GL x2)]
def f95_K (x1 : Int) (x2 : LI) : List (Nat × Blk) := []
def f95_C (x1 : Int) (x2 : LI) (r : Int × Int) : Prop := CallOK cx 95 (f95_A x1 x2) (f95_K x1 x2) [] (f95_v r) (f95_k x1 x2 r)

def f58_1_M : List Nat := [20]
def f58_1_p1_H (x5 : Int) (x4 : LI) : GS := ⟨[(0, (.r (.at (.int .u64 x5)))), (3, (.r (.at (.sl 20 0 (List.length x4)))))], [(20, (.gr (.int .i64) 3 x4 true))]⟩
def f58_1_p1_x : (List Int) → GExit := fun y0 => (.exit 0)
def f58_1_p1_s : (List Int) → GS := fun y0 => ⟨[(3, (.r (.at (.sl 20 0 (List.length y0)))))], [(20, (.gr (.int .i64) 3 y0 true))]⟩
def f58_1_p1_P (x5 : Int) (x4 : LI) (r : (List Int)) : Prop := Lp cx f58_1_M 16 (part Tryz.f58 1) (f58_1_p1_H x5 x4) (f58_1_p1_x r) (f58_1_p1_s r)
def f58_1_v : (List Int) → G := fun y0 => (.r (.at (.sl 20 0 (List.length y0))))
def f58_1_k0 : (List Int) → List (Nat × Blk) := fun y0 => [(20, (.gr (.int .i64) 3 y0 true))]
def f58_1_k (x1 : Int) : (List Int) → List (Nat × Blk) := fun y0 => [(20, (.gr (.int .i64) 3 y0 true))]
def f58_1_A (x1 : Int) : List G := [(.r (.at (.int .u64 x1)))]
def f58_1_K (x1 : Int) : List (Nat × Blk) := []
def f58_1_C (x1 : Int) (r : (List Int)) : Prop := CallOK cx 58 (f58_1_A x1) (f58_1_K x1) [] (f58_1_v r) (f58_1_k x1 r)

def f121_1_M : List Nat := []
def f121_1_v : (Nat × Nat × (List Int)) → G := fun (y0, y1, y2) => (.r (.at (.sl 20 y0 y1)))
def f121_1_k0 : (Nat × Nat × (List Int)) → List (Nat × Blk) := fun (y0, y1, y2) => [(20, (.gr (.int .i64) 3 y2 true))]
def f121_1_k (x1 x2 : Nat) (x3 x4 : Int) (x5 : LI) : (Nat × Nat × (List Int)) → List (Nat × Blk) := fun (y0, y1, y2) => [(20, (.gr (.int .i64) 3 y2 true))]
def f121_1_A (x1 x2 : Nat) (x3 x4 : Int) (x5 : LI) : List G := [(.r (.at (.sl 20 x1 x2))), (GI x3), (GI x4)]
def f121_1_K (x1 x2 : Nat) (x3 x4 : Int) (x5 : LI) : List (Nat × Blk) := [(20, (.gr (.int .i64) 3 x5 true))]
def f121_1_C (x1 x2 : Nat) (x3 x4 : Int) (x5 : LI) (r : Nat × Nat × (List Int)) : Prop := CallOK cx 121 (f121_1_A x1 x2 x3 x4 x5) (f121_1_K x1 x2 x3 x4 x5) [] (f121_1_v r) (f121_1_k x1 x2 x3 x4 x5 r)

def f96_M : List Nat := [20]
def f96_p4_1_H (x2 : Int) (x16 x17 : Nat) (x18 x20 : Int) (x15 : LI) : GS := ⟨[(1, (.r (.at (.int .u64 x2)))), (5, (.r (.at (.sl 20 x16 x17)))), (6, (GI x18)), (33, (.r (.at (.bool ((iAnd .u64 (iShr .u64 x2 x20) 1) == 0)))))], [(20, (.gr (.int .i64) 3 x15 true))]⟩
def f96_p4_1_x : (Nat × Nat × Int × (List Int)) → GExit := fun (y0, y1, y2, y3) => .normal
def f96_p4_1_s (x2 : Int) (x16 x17 : Nat) (x18 x20 : Int) (x15 : LI) : (Nat × Nat × Int × (List Int)) → GS := fun (y0, y1, y2, y3) => ⟨[(1, (.r (.at (.int .u64 x2)))), (5, (.r (.at (.sl 20 y0 y1)))), (6, (GI y2))], [(20, (.gr (.int .i64) 3 y3 true))]⟩
def f96_p4_1_P (x2 : Int) (x16 x17 : Nat) (x18 x20 : Int) (x15 : LI) (r : Nat × Nat × Int × (List Int)) : Prop := Ex cx f96_M 46 (part Tryz.f96 4) (f96_p4_1_H x2 x16 x17 x18 x20 x15) (f96_p4_1_x r) (f96_p4_1_s x2 x16 x17 x18 x20 x15 r)
def f96_p1_H (x2 : Int) (x16 x17 : Nat) (x18 : Int) (x15 : LI) : GS := ⟨[(1, (.r (.at (.int .u64 x2)))), (5, (.r (.at (.sl 20 x16 x17)))), (6, (GI x18))], [(20, (.gr (.int .i64) 3 x15 true))]⟩
def f96_p1_x : (Nat × Nat × (List Int)) → GExit := fun (y0, y1, y2) => (.exit 0)
def f96_p1_s (x2 : Int) : (Nat × Nat × (List Int)) → GS := fun (y0, y1, y2) => ⟨[(5, (.r (.at (.sl 20 y0 y1))))], [(20, (.gr (.int .i64) 3 y2 true))]⟩
def f96_p1_P (x2 : Int) (x16 x17 : Nat) (x18 : Int) (x15 : LI) (r : Nat × Nat × (List Int)) : Prop := Lp cx f96_M 46 (part Tryz.f96 1) (f96_p1_H x2 x16 x17 x18 x15) (f96_p1_x r) (f96_p1_s x2 r)
def f96_v : (List Int) → G := fun y0 => (GL y0)
def f96_k0 : (List Int) → List (Nat × Blk) := fun y0 => []
def f96_k (x1 x2 : Int) : (List Int) → List (Nat × Blk) := fun y0 => []
def f96_A (x1 x2 : Int) : List G := [(GI x1), (.r (.at (.int .u64 x2)))]
def f96_K (x1 x2 : Int) : List (Nat × Blk) := []
def f96_C (x1 x2 : Int) (r : (List Int)) : Prop := CallOK cx 96 (f96_A x1 x2) (f96_K x1 x2) [] (f96_v r) (f96_k x1 x2 r)

def f61_M : List Nat := []
def f61_v : ((List Int) × Int) → G := fun (y0, y1) => (.tup [(.at (.lst (.int .i64) y0 false)), (.at (.int .i64 y1))])
def f61_k0 : ((List Int) × Int) → List (Nat × Blk) := fun (y0, y1) => []
def f61_k (x1 : Int) (x2 : LI) : ((List Int) × Int) → List (Nat × Blk) := fun (y0, y1) => []
def f61_A (x1 : Int) (x2 : LI) : List G := [(GI x1), (GL x2)]
def f61_K (x1 : Int) (x2 : LI) : List (Nat × Blk) := []
def f61_C (x1 : Int) (x2 : LI) (r : (List Int) × Int) : Prop := CallOK cx 61 (f61_A x1 x2) (f61_K x1 x2) [] (f61_v r) (f61_k x1 x2 r)

def f122_M : List Nat := []
def f122_v : Bool → G := fun y0 => (GB y0)
def f122_k0 : Bool → List (Nat × Blk) := fun y0 => []
def f122_k (x1 x2 x3 : Int) : Bool → List (Nat × Blk) := fun y0 => []
def f122_A (x1 x2 x3 : Int) : List G := [(GI x1), (GI x2), (GI x3)]
def f122_K (x1 x2 x3 : Int) : List (Nat × Blk) := []
def f122_C (x1 x2 x3 : Int) (r : Bool) : Prop := CallOK cx 122 (f122_A x1 x2 x3) (f122_K x1 x2 x3) [] (f122_v r) (f122_k x1 x2 x3 r)

def f145_M : List Nat := []
def f145_p2_H (x1 x2 : Int) (x3 x4 : Int) : GS := ⟨[(0, (GI x1)), (5, (GI x3)), (9, (GI x2)), (10, (GI x4))], []⟩
def f145_p2_x : Int → GExit := fun y0 => (.exit 0)
def f145_p2_s (x1 x2 : Int) : Int → GS := fun y0 => ⟨[(5, (GI y0))], []⟩
def f145_p2_P (x1 x2 : Int) (x3 x4 : Int) (r : Int) : Prop := Lp cx f145_M 23 (part Tryz.f145 2) (f145_p2_H x1 x2 x3 x4) (f145_p2_x r) (f145_p2_s x1 x2 r)
def f145_v : Int → G := fun y0 => (GI y0)
def f145_k0 : Int → List (Nat × Blk) := fun y0 => []
def f145_k (x1 x2 : Int) : Int → List (Nat × Blk) := fun y0 => []
def f145_A (x1 x2 : Int) : List G := [(GI x1), (GI x2)]
def f145_K (x1 x2 : Int) : List (Nat × Blk) := []
def f145_C (x1 x2 : Int) (r : Int) : Prop := CallOK cx 145 (f145_A x1 x2) (f145_K x1 x2) [] (f145_v r) (f145_k x1 x2 r)

def f123_M : List Nat := []
def f123_v : Int → G := fun y0 => (GI y0)
def f123_k0 : Int → List (Nat × Blk) := fun y0 => []
def f123_k (x1 x2 x3 : Int) : Int → List (Nat × Blk) := fun y0 => []
def f123_A (x1 x2 x3 : Int) : List G := [(GI x1), (GI x2), (GI x3)]
def f123_K (x1 x2 x3 : Int) : List (Nat × Blk) := []
def f123_C (x1 x2 x3 : Int) (r : Int) : Prop := CallOK cx 123 (f123_A x1 x2 x3) (f123_K x1 x2 x3) [] (f123_v r) (f123_k x1 x2 x3 r)

def f97_M : List Nat := []
def f97_v : (Int × Int) → G := fun (y0, y1) => (.tup [(.at (.int .i64 y0)), (.at (.int .i64 y1))])
def f97_k0 : (Int × Int) → List (Nat × Blk) := fun (y0, y1) => []
def f97_k (x1 x2 x3 : Int) : (Int × Int) → List (Nat × Blk) := fun (y0, y1) => []
def f97_A (x1 x2 x3 : Int) : List G := [(GI x1), (GI x2), (GI x3)]
def f97_K (x1 x2 x3 : Int) : List (Nat × Blk) := []
def f97_C (x1 x2 x3 : Int) (r : Int × Int) : Prop := CallOK cx 97 (f97_A x1 x2 x3) (f97_K x1 x2 x3) [] (f97_v r) (f97_k x1 x2 x3 r)

def f62_M : List Nat := []
def f62_v : (Int × Int) → G := fun (y0, y1) => (.tup [(.at (.int .i64 y0)), (.at (.int .i64 y1))])
def f62_k0 : (Int × Int) → List (Nat × Blk) := fun (y0, y1) => []
def f62_k (x1 x2 x3 : Int) : (Int × Int) → List (Nat × Blk) := fun (y0, y1) => []
def f62_A (x1 x2 x3 : Int) : List G := [(GI x1), (GI x2), (GI x3)]
def f62_K (x1 x2 x3 : Int) : List (Nat × Blk) := []
def f62_C (x1 x2 x3 : Int) (r : Int × Int) : Prop := CallOK cx 62 (f62_A x1 x2 x3) (f62_K x1 x2 x3) [] (f62_v r) (f62_k x1 x2 x3 r)

def f203_M : List Nat := []
def f203_v : Bool → G := fun y0 => (GB y0)
def f203_k0 : Bool → List (Nat × Blk) := fun y0 => []
def f203_k (x1 x2 x3 : Int) : Bool → List (Nat × Blk) := fun y0 => []
def f203_A (x1 x2 x3 : Int) : List G := [(GI x1), (GI x2), (GI x3)]
def f203_K (x1 x2 x3 : Int) : List (Nat × Blk) := []
def f203_C (x1 x2 x3 : Int) (r : Bool) : Prop := CallOK cx 203 (f203_A x1 x2 x3) (f203_K x1 x2 x3) [] (f203_v r) (f203_k x1 x2 x3 r)

def f202_M : List Nat := []
def f202_v : Bool → G := fun y0 => (GB y0)
def f202_k0 : Bool → List (Nat × Blk) := fun y0 => []
def f202_k (x1 : Int) : Bool → List (Nat × Blk) := fun y0 => []
def f202_A (x1 : Int) : List G := [(GI x1)]
def f202_K (x1 : Int) : List (Nat × Blk) := []
def f202_C (x1 : Int) (r : Bool) : Prop := CallOK cx 202 (f202_A x1) (f202_K x1) [] (f202_v r) (f202_k x1 r)

def f207_M : List Nat := []
def f207_p1_H (x1 : LI) (x2 : Int) : GS := ⟨[(0, (GL x1)), (1, (.r (.at (.fn 202)))), (7, (.r (.at (.int .i64 (LN x1))))), (8, (GI x2))], []⟩
def f207_p1_x : f207_p1_R → GExit := fun
 | .c0 y0 => .ret
 | .c1 => (.exit 0)
def f207_p1_s (x1 : LI) : f207_p1_R → GS := fun
 | .c0 y0 => ⟨[(4, (GI y0))], []⟩
 | .c1 => ⟨[], []⟩
def f207_p1_P (x1 : LI) (x2 : Int) (r : f207_p1_R) : Prop := Lp cx f207_M 19 (part Tryz.f207 1) (f207_p1_H x1 x2) (f207_p1_x r) (f207_p1_s x1 r)
def f207_v : Int → G := fun y0 => (GI y0)
def f207_k0 : Int → List (Nat × Blk) := fun y0 => []
def f207_k (x1 : LI) : Int → List (Nat × Blk) := fun y0 => []
def f207_A (x1 : LI) : List G := [(GL x1), (.r (.at (.fn 202)))]
def f207_K (x1 : LI) : List (Nat × Blk) := []
def f207_C (x1 : LI) (r : Int) : Prop := CallOK cx 207 (f207_A x1) (f207_K x1) [] (f207_v r) (f207_k x1 r)

def f193_M : List Nat := []
def f193_v : Bool → G := fun y0 => (GB y0)
def f193_k0 : Bool → List (Nat × Blk) := fun y0 => []
def f193_k (x1 : LI) : Bool → List (Nat × Blk) := fun y0 => []
def f193_A (x1 : LI) : List G := [(GL x1), (.r (.at (.fn 202)))]
def f193_K (x1 : LI) : List (Nat × Blk) := []
def f193_C (x1 : LI) (r : Bool) : Prop := CallOK cx 193 (f193_A x1) (f193_K x1) [] (f193_v r) (f193_k x1 r)

def f189_M : List Nat := []
def f189_v : Int → G := fun y0 => (GI y0)
def f189_k0 : Int → List (Nat × Blk) := fun y0 => []
def f189_k (x1 : LI) (x2 : Int) : Int → List (Nat × Blk) := fun y0 => []
def f189_A (x1 : LI) (x2 : Int) : List G := [(GL x1), (GI x2)]
def f189_K (x1 : LI) (x2 : Int) : List (Nat × Blk) := []
def f189_C (x1 : LI) (x2 : Int) (r : Int) : Prop := CallOK cx 189 (f189_A x1 x2) (f189_K x1 x2) [] (f189_v r) (f189_k x1 x2 r)

def f168_M : List Nat := []
def f168_p4_H (x1 : LL) (x3 : Int) : GS := ⟨[(0, (.r (.at (.lst (.list (.int .i64)) x1 false)))), (21, (.r (.at (.lst (.list (.int .i64)) x1 false)))), (22, (.r (.at (.int .i64 (LN x1))))), (23, (GI x3))], []⟩
def f168_p4_x : f168_p4_R → GExit := fun
 | .c0 y0 => .ret
 | .c1 => (.exit 1)
def f168_p4_s (x1 : LL) : f168_p4_R → GS := fun
 | .c0 y0 => ⟨[(2, (GI y0))], []⟩
 | .c1 => ⟨[], []⟩
def f168_p4_P (x1 : LL) (x3 : Int) (r : f168_p4_R) : Prop := Lp cx f168_M 37 (part Tryz.f168 4) (f168_p4_H x1 x3) (f168_p4_x r) (f168_p4_s x1 r)
def f168_v : Int → G := fun y0 => (GI y0)
def f168_k0 : Int → List (Nat × Blk) := fun y0 => []
def f168_k (x1 : LL) : Int → List (Nat × Blk) := fun y0 => []
def f168_A (x1 : LL) : List G := [(.r (.at (.lst (.list (.int .i64)) x1 false)))]
def f168_K (x1 : LL) : List (Nat × Blk) := []
def f168_C (x1 : LL) (r : Int) : Prop := CallOK cx 168 (f168_A x1) (f168_K x1) [] (f168_v r) (f168_k x1 r)

def f146_M : List Nat := [21, 22]
def f146_v : f146_R → G := fun
 | .c0 y0 => (.tup [(.at .nilp), (.at (.int .i64 y0))])
 | .c1 y0 y1 y2 y3 => (.tup [(.at (.ptr 22 0 0)), (.at (.int .i64 y0))])
def f146_k0 : f146_R → List (Nat × Blk) := fun
 | .c0 y0 => []
 | .c1 y0 y1 y2 y3 => [(21, (.mpb pMa pMb y1)), (22, (.var [.cell (.lst (.list (.int .i64)) y2 false), .cell (.int .i64 y3), .cell (.mp 21)]))]
def f146_k (x1 : LL) : f146_R → List (Nat × Blk) := fun
 | .c0 y0 => []
 | .c1 y0 y1 y2 y3 => [(21, (.mpb pMa pMb y1)), (22, (.var [.cell (.lst (.list (.int .i64)) y2 false), .cell (.int .i64 y3), .cell (.mp 21)]))]
def f146_A (x1 : LL) : List G := [(.r (.at (.lst (.list (.int .i64)) x1 false)))]
def f146_K (x1 : LL) : List (Nat × Blk) := []
def f146_C (x1 : LL) (r : f146_R) : Prop := CallOK cx 146 (f146_A x1) (f146_K x1) [] (f146_v r) (f146_k x1 r)

def f149_M : List Nat := []
def f149_v : f149_R → G := fun r => nomatch r
def f149_k0 : f149_R → List (Nat × Blk) := fun r => nomatch r
def f149_k : f149_R → List (Nat × Blk) := fun r => nomatch r
def f149_A : List G := [(.r (.at .nilp))]
def f149_K : List (Nat × Blk) := []
def f149_C (r : f149_R) : Prop := CallOK cx 149 (f149_A) (f149_K) [] (f149_v r) (f149_k r)

def f147_M : List Nat := []
def f147_v : f147_R → G := fun r => nomatch r
def f147_k0 : f147_R → List (Nat × Blk) := fun r => nomatch r
def f147_k : f147_R → List (Nat × Blk) := fun r => nomatch r
def f147_A : List G := [(.r (.at .nilp))]
def f147_K : List (Nat × Blk) := []
def f147_C (r : f147_R) : Prop := CallOK cx 147 (f147_A) (f147_K) [] (f147_v r) (f147_k r)

def f149_1_M : List Nat := []
def f149_1_v : Int → G := fun y0 => (.r (.at (.int .u8 y0)))
def f149_1_k0 : Int → List (Nat × Blk) := fun y0 => []
def f149_1_k (x1 : List ((Int × (Int × (Int × Unit))) × (Int × (Int × Unit)))) (x2 : LL) (x3 : Int) : Int → List (Nat × Blk) := fun y0 => [(21, (.mpb pMa pMb x1)), (22, (.var [.cell (.lst (.list (.int .i64)) x2 false), .cell (.int .i64 x3), .cell (.mp 21)]))]
def f149_1_A (x1 : List ((Int × (Int × (Int × Unit))) × (Int × (Int × Unit)))) (x2 : LL) (x3 : Int) : List G := [(.r (.at (.ptr 22 0 0)))]
def f149_1_K (x1 : List ((Int × (Int × (Int × Unit))) × (Int × (Int × Unit)))) (x2 : LL) (x3 : Int) : List (Nat × Blk) := [(21, (.mpb pMa pMb x1)), (22, (.var [.cell (.lst (.list (.int .i64)) x2 false), .cell (.int .i64 x3), .cell (.mp 21)]))]
def f149_1_C (x1 : List ((Int × (Int × (Int × Unit))) × (Int × (Int × Unit)))) (x2 : LL) (x3 : Int) (r : Int) : Prop := CallOK cx 149 (f149_1_A x1 x2 x3) (f149_1_K x1 x2 x3) [] (f149_1_v r) (f149_1_k x1 x2 x3 r)

def f169_M : List Nat := []
def f169_v : (Int × Bool) → G := fun (y0, y1) => (.tup [(.at (.int .u8 y0)), (.at (.bool y1))])
def f169_k0 : (Int × Bool) → List (Nat × Blk) := fun (y0, y1) => []
def f169_k (x1 x2 : Int) : (Int × Bool) → List (Nat × Blk) := fun (y0, y1) => []
def f169_A (x1 x2 : Int) : List G := [(.r (.at (.int .u8 x1))), (GI x2)]
def f169_K (x1 x2 : Int) : List (Nat × Blk) := []
def f169_C (x1 x2 : Int) (r : Int × Bool) : Prop := CallOK cx 169 (f169_A x1 x2) (f169_K x1 x2) [] (f169_v r) (f169_k x1 x2 r)

def f150_M : List Nat := []
def f150_v : Int → G := fun y0 => (GI y0)
def f150_k0 : Int → List (Nat × Blk) := fun y0 => []
def f150_k (x1 x2 : Int) (x3 : List ((Int × (Int × (Int × Unit))) × (Int × (Int × Unit)))) (x4 : LL) (x5 : Int) : Int → List (Nat × Blk) := fun y0 => [(21, (.mpb pMa pMb x3)), (22, (.var [.cell (.lst (.list (.int .i64)) x4 false), .cell (.int .i64 x5), .cell (.mp 21)]))]
def f150_A (x1 x2 : Int) (x3 : List ((Int × (Int × (Int × Unit))) × (Int × (Int × Unit)))) (x4 : LL) (x5 : Int) : List G := [(.r (.at (.ptr 22 0 0))), (GI x1), (GI x2)]
def f150_K (x1 x2 : Int) (x3 : List ((Int × (Int × (Int × Unit))) × (Int × (Int × Unit)))) (x4 : LL) (x5 : Int) : List (Nat × Blk) := [(21, (.mpb pMa pMb x3)), (22, (.var [.cell (.lst (.list (.int .i64)) x4 false), .cell (.int .i64 x5), .cell (.mp 21)]))]
def f150_C (x1 x2 : Int) (x3 : List ((Int × (Int × (Int × Unit))) × (Int × (Int × Unit)))) (x4 : LL) (x5 : Int) (r : Int) : Prop := CallOK cx 150 (f150_A x1 x2 x3 x4 x5) (f150_K x1 x2 x3 x4 x5) [] (f150_v r) (f150_k x1 x2 x3 x4 x5 r)

def f148_M : List Nat := [23, 24, 25, 26, 27]
def f148_r11_1_H (x18 x22 : Int) (x23 : Bool) (x19 : List ((Int × (Int × (Int × Unit))) × (Int × (Int × Unit)))) (x5 : LL) (x6 x1 : Int) (x2 x3 : Int) (x20 x21 : Int) : GS := ⟨[(0, (.r (.at (.ptr 22 0 0)))), (3, (.r (.at (.ptr 23 0 0)))), (4, (.r (.at (.ptr 24 0 0)))), (7, (.r (.at (.ptr 26 0 0)))), (8, (GI x18)), (9, (.r (.at (.int .u8 x22)))), (10, (GB x23))], [(21, (.mpb pMa pMb x19)), (22, (.var [.cell (.lst (.list (.int .i64)) x5 false), .cell (.int .i64 x6), .cell (.mp 21)])), (23, (.var [.cell (.int .i64 x1), .cell (.int .i64 x2), .cell (.int .u8 x3)])), (24, (.var [.cell (.int .i64 0), .cell (.int .i64 0)])), (26, (.var [.cell (.int .i64 x20), .cell (.int .i64 x21)]))]⟩
def f148_r11_1_x : Bool → GExit := fun y0 => .normal
def f148_r11_1_s (x18 x22 : Int) (x23 : Bool) (x19 : List ((Int × (Int × (Int × Unit))) × (Int × (Int × Unit)))) (x5 : LL) (x6 x1 : Int) (x2 x3 : Int) (x20 x21 : Int) : Bool → GS := fun y0 => ⟨[(0, (.r (.at (.ptr 22 0 0)))), (3, (.r (.at (.ptr 23 0 0)))), (4, (.r (.at (.ptr 24 0 0)))), (7, (.r (.at (.ptr 26 0 0)))), (8, (GI x18)), (9, (.r (.at (.int .u8 x22)))), (60, (GB y0))], [(21, (.mpb pMa pMb x19)), (22, (.var [.cell (.lst (.list (.int .i64)) x5 false), .cell (.int .i64 x6), .cell (.mp 21)])), (23, (.var [.cell (.int .i64 x1), .cell (.int .i64 x2), .cell (.int .u8 x3)])), (24, (.var [.cell (.int .i64 0), .cell (.int .i64 0)])), (26, (.var [.cell (.int .i64 x20), .cell (.int .i64 x21)]))]⟩
def f148_r11_1_P (x18 x22 : Int) (x23 : Bool) (x19 : List ((Int × (Int × (Int × Unit))) × (Int × (Int × Unit)))) (x5 : LL) (x6 x1 : Int) (x2 x3 : Int) (x20 x21 : Int) (r : Bool) : Prop := Ex cx f148_M 105 (rgnF 11 Tryz.f148) (f148_r11_1_H x18 x22 x23 x19 x5 x6 x1 x2 x3 x20 x21) (f148_r11_1_x r) (f148_r11_1_s x18 x22 x23 x19 x5 x6 x1 x2 x3 x20 x21 r)
def f148_p9_1_H (x18 x25 : Int) (x28 x20 : Int) (x27 : List ((Int × (Int × (Int × Unit))) × (Int × (Int × Unit)))) (x5 : LL) (x6 x1 : Int) (x2 x3 : Int) (x21 x26 : Int) : GS := ⟨[(0, (.r (.at (.ptr 22 0 0)))), (3, (.r (.at (.ptr 23 0 0)))), (4, (.r (.at (.ptr 24 0 0)))), (7, (.r (.at (.ptr 26 0 0)))), (8, (GI x18)), (11, (.r (.at (.ptr 27 0 0)))), (86, (.r (.at (.bool ((w64 (x25 + x28)) == x20)))))], [(21, (.mpb pMa pMb x27)), (22, (.var [.cell (.lst (.list (.int .i64)) x5 false), .cell (.int .i64 x6), .cell (.mp 21)])), (23, (.var [.cell (.int .i64 x1), .cell (.int .i64 x2), .cell (.int .u8 x3)])), (24, (.var [.cell (.int .i64 0), .cell (.int .i64 0)])), (26, (.var [.cell (.int .i64 x20), .cell (.int .i64 x21)])), (27, (.var [.cell (.int .i64 (w64 (x25 + x28))), .cell (.int .i64 x26)]))]⟩
def f148_p9_1_x : Int → GExit := fun y0 => .normal
def f148_p9_1_s (x18 x25 : Int) (x28 x20 : Int) (x27 : List ((Int × (Int × (Int × Unit))) × (Int × (Int × Unit)))) (x5 : LL) (x6 x1 : Int) (x2 x3 : Int) (x21 x26 : Int) : Int → GS := fun y0 => ⟨[(0, (.r (.at (.ptr 22 0 0)))), (3, (.r (.at (.ptr 23 0 0)))), (4, (.r (.at (.ptr 24 0 0)))), (7, (.r (.at (.ptr 26 0 0)))), (8, (GI x18))], [(21, (.mpb pMa pMb x27)), (22, (.var [.cell (.lst (.list (.int .i64)) x5 false), .cell (.int .i64 x6), .cell (.mp 21)])), (23, (.var [.cell (.int .i64 x1), .cell (.int .i64 x2), .cell (.int .u8 x3)])), (24, (.var [.cell (.int .i64 0), .cell (.int .i64 0)])), (26, (.var [.cell (.int .i64 x20), .cell (.int .i64 y0)]))]⟩
def f148_p9_1_P (x18 x25 : Int) (x28 x20 : Int) (x27 : List ((Int × (Int × (Int × Unit))) × (Int × (Int × Unit)))) (x5 : LL) (x6 x1 : Int) (x2 x3 : Int) (x21 x26 : Int) (r : Int) : Prop := Ex cx f148_M 105 (part Tryz.f148 9) (f148_p9_1_H x18 x25 x28 x20 x27 x5 x6 x1 x2 x3 x21 x26) (f148_p9_1_x r) (f148_p9_1_s x18 x25 x28 x20 x27 x5 x6 x1 x2 x3 x21 x26 r)
def f148_p8_1_H (x18 x25 : Int) (x28 x20 : Int) (x27 : List ((Int × (Int × (Int × Unit))) × (Int × (Int × Unit)))) (x5 : LL) (x6 x1 : Int) (x2 x3 : Int) (x21 x26 : Int) : GS := ⟨[(0, (.r (.at (.ptr 22 0 0)))), (3, (.r (.at (.ptr 23 0 0)))), (4, (.r (.at (.ptr 24 0 0)))), (7, (.r (.at (.ptr 26 0 0)))), (8, (GI x18)), (11, (.r (.at (.ptr 27 0 0)))), (79, (.r (.at (.bool (decide ((w64 (x25 + x28)) > x20))))))], [(21, (.mpb pMa pMb x27)), (22, (.var [.cell (.lst (.list (.int .i64)) x5 false), .cell (.int .i64 x6), .cell (.mp 21)])), (23, (.var [.cell (.int .i64 x1), .cell (.int .i64 x2), .cell (.int .u8 x3)])), (24, (.var [.cell (.int .i64 0), .cell (.int .i64 0)])), (26, (.var [.cell (.int .i64 x20), .cell (.int .i64 x21)])), (27, (.var [.cell (.int .i64 (w64 (x25 + x28))), .cell (.int .i64 x26)]))]⟩
def f148_p8_1_x : (Int × Int) → GExit := fun (y0, y1) => .normal
def f148_p8_1_s (x18 x25 : Int) (x28 x20 : Int) (x27 : List ((Int × (Int × (Int × Unit))) × (Int × (Int × Unit)))) (x5 : LL) (x6 x1 : Int) (x2 x3 : Int) (x21 x26 : Int) : (Int × Int) → GS := fun (y0, y1) => ⟨[(0, (.r (.at (.ptr 22 0 0)))), (3, (.r (.at (.ptr 23 0 0)))), (4, (.r (.at (.ptr 24 0 0)))), (7, (.r (.at (.ptr 26 0 0)))), (8, (GI x18))], [(21, (.mpb pMa pMb x27)), (22, (.var [.cell (.lst (.list (.int .i64)) x5 false), .cell (.int .i64 x6), .cell (.mp 21)])), (23, (.var [.cell (.int .i64 x1), .cell (.int .i64 x2), .cell (.int .u8 x3)])), (24, (.var [.cell (.int .i64 0), .cell (.int .i64 0)])), (26, (.var [.cell (.int .i64 y0), .cell (.int .i64 y1)]))]⟩
def f148_p8_1_P (x18 x25 : Int) (x28 x20 : Int) (x27 : List ((Int × (Int × (Int × Unit))) × (Int × (Int × Unit)))) (x5 : LL) (x6 x1 : Int) (x2 x3 : Int) (x21 x26 : Int) (r : Int × Int) : Prop := Ex cx f148_M 105 (part Tryz.f148 8) (f148_p8_1_H x18 x25 x28 x20 x27 x5 x6 x1 x2 x3 x21 x26) (f148_p8_1_x r) (f148_p8_1_s x18 x25 x28 x20 x27 x5 x6 x1 x2 x3 x21 x26 r)
def f148_p3_H (x5 : LL) (x6 x1 : Int) (x2 x3 x18 : Int) (x19 : List ((Int × (Int × (Int × Unit))) × (Int × (Int × Unit)))) (x20 x21 : Int) : GS := ⟨[(0, (.r (.at (.ptr 22 0 0)))), (3, (.r (.at (.ptr 23 0 0)))), (4, (.r (.at (.ptr 24 0 0)))), (7, (.r (.at (.ptr 26 0 0)))), (8, (GI x18))], [(21, (.mpb pMa pMb x19)), (22, (.var [.cell (.lst (.list (.int .i64)) x5 false), .cell (.int .i64 x6), .cell (.mp 21)])), (23, (.var [.cell (.int .i64 x1), .cell (.int .i64 x2), .cell (.int .u8 x3)])), (24, (.var [.cell (.int .i64 0), .cell (.int .i64 0)])), (26, (.var [.cell (.int .i64 x20), .cell (.int .i64 x21)]))]⟩
def f148_p3_x : ((List ((Int × (Int × (Int × Unit))) × (Int × (Int × Unit)))) × Int × Int) → GExit := fun (y0, y1, y2) => (.exit 0)
def f148_p3_s (x5 : LL) (x6 x1 : Int) (x2 x3 : Int) : ((List ((Int × (Int × (Int × Unit))) × (Int × (Int × Unit)))) × Int × Int) → GS := fun (y0, y1, y2) => ⟨[(0, (.r (.at (.ptr 22 0 0)))), (3, (.r (.at (.ptr 23 0 0)))), (4, (.r (.at (.ptr 24 0 0)))), (7, (.r (.at (.ptr 26 0 0))))], [(21, (.mpb pMa pMb y0)), (22, (.var [.cell (.lst (.list (.int .i64)) x5 false), .cell (.int .i64 x6), .cell (.mp 21)])), (23, (.var [.cell (.int .i64 x1), .cell (.int .i64 x2), .cell (.int .u8 x3)])), (24, (.var [.cell (.int .i64 0), .cell (.int .i64 0)])), (26, (.var [.cell (.int .i64 y1), .cell (.int .i64 y2)]))]⟩
def f148_p3_P (x5 : LL) (x6 x1 : Int) (x2 x3 x18 : Int) (x19 : List ((Int × (Int × (Int × Unit))) × (Int × (Int × Unit)))) (x20 x21 : Int) (r : (List ((Int × (Int × (Int × Unit))) × (Int × (Int × Unit)))) × Int × Int) : Prop := Lp cx f148_M 105 (part Tryz.f148 3) (f148_p3_H x5 x6 x1 x2 x3 x18 x19 x20 x21) (f148_p3_x r) (f148_p3_s x5 x6 x1 x2 x3 r)
def f148_v : (Int × Int × (List ((Int × (Int × (Int × Unit))) × (Int × (Int × Unit))))) → G := fun (y0, y1, y2) => (.r (.agg [.cell (.int .i64 y0), .cell (.int .i64 y1)]))
def f148_k0 : (Int × Int × (List ((Int × (Int × (Int × Unit))) × (Int × (Int × Unit))))) → List (Nat × Blk) := fun (y0, y1, y2) => [(21, (.mpb pMa pMb y2))]
def f148_k (x1 x2 x3 : Int) (x4 : List ((Int × (Int × (Int × Unit))) × (Int × (Int × Unit)))) (x5 : LL) (x6 : Int) : (Int × Int × (List ((Int × (Int × (Int × Unit))) × (Int × (Int × Unit))))) → List (Nat × Blk) := fun (y0, y1, y2) => [(21, (.mpb pMa pMb y2)), (22, (.var [.cell (.lst (.list (.int .i64)) x5 false), .cell (.int .i64 x6), .cell (.mp 21)]))]
def f148_A (x1 x2 x3 : Int) (x4 : List ((Int × (Int × (Int × Unit))) × (Int × (Int × Unit)))) (x5 : LL) (x6 : Int) : List G := [(.r (.at (.ptr 22 0 0))), (.r (.agg [.cell (.int .i64 x1), .cell (.int .i64 x2), .cell (.int .u8 x3)]))]
def f148_K (x1 x2 x3 : Int) (x4 : List ((Int × (Int × (Int × Unit))) × (Int × (Int × Unit)))) (x5 : LL) (x6 : Int) : List (Nat × Blk) := [(21, (.mpb pMa pMb x4)), (22, (.var [.cell (.lst (.list (.int .i64)) x5 false), .cell (.int .i64 x6), .cell (.mp 21)]))]
def f148_C (x1 x2 x3 : Int) (x4 : List ((Int × (Int × (Int × Unit))) × (Int × (Int × Unit)))) (x5 : LL) (x6 : Int) (r : Int × Int × (List ((Int × (Int × (Int × Unit))) × (Int × (Int × Unit))))) : Prop := CallOK cx 148 (f148_A x1 x2 x3 x4 x5 x6) (f148_K x1 x2 x3 x4 x5 x6) [] (f148_v r) (f148_k x1 x2 x3 x4 x5 x6 r)

def f147_1_M : List Nat := [28]
def f147_1_p5_2_H (x64 : Int) (x2 : LL) (x3 x79 x80 : Int) (x81 : List ((Int × (Int × (Int × Unit))) × (Int × (Int × Unit)))) (x78 : LI) : GS := ⟨[(0, (.r (.at (.ptr 22 0 0)))), (3, (.r (.at (.int .u8 x79)))), (4, (.r (.at (.sl 28 0 (List.length x78))))), (5, (GI x64)), (6, (GI x80)), (15, (.r (.at (.int .i64 (LN x2))))), (16, (GI x64))], [(21, (.mpb pMa pMb x81)), (22, (.var [.cell (.lst (.list (.int .i64)) x2 false), .cell (.int .i64 x3), .cell (.mp 21)])), (28, (.gr (.int .i64) 3 x78 true))]⟩
def f147_1_p5_2_x : (Int × (List ((Int × (Int × (Int × Unit))) × (Int × (Int × Unit)))) × (List Int)) → GExit := fun (y0, y1, y2) => (.exit 2)
def f147_1_p5_2_s (x64 : Int) (x2 : LL) (x3 : Int) : (Int × (List ((Int × (Int × (Int × Unit))) × (Int × (Int × Unit)))) × (List Int)) → GS := fun (y0, y1, y2) => ⟨[(0, (.r (.at (.ptr 22 0 0)))), (3, (.r (.at (.int .u8 y0)))), (4, (.r (.at (.sl 28 0 (List.length y2))))), (15, (.r (.at (.int .i64 (LN x2))))), (16, (GI x64))], [(21, (.mpb pMa pMb y1)), (22, (.var [.cell (.lst (.list (.int .i64)) x2 false), .cell (.int .i64 x3), .cell (.mp 21)])), (28, (.gr (.int .i64) 3 y2 true))]⟩
def f147_1_p5_2_P (x64 : Int) (x2 : LL) (x3 x79 x80 : Int) (x81 : List ((Int × (Int × (Int × Unit))) × (Int × (Int × Unit)))) (x78 : LI) (r : Int × (List ((Int × (Int × (Int × Unit))) × (Int × (Int × Unit)))) × (List Int)) : Prop := Lp cx f147_1_M 62 (part Tryz.f147 5) (f147_1_p5_2_H x64 x2 x3 x79 x80 x81 x78) (f147_1_p5_2_x r) (f147_1_p5_2_s x64 x2 x3 r)
def f147_1_p1_H (x2 : LL) (x3 x63 x64 : Int) (x65 : List ((Int × (Int × (Int × Unit))) × (Int × (Int × Unit)))) (x62 : LI) : GS := ⟨[(0, (.r (.at (.ptr 22 0 0)))), (3, (.r (.at (.int .u8 x63)))), (4, (.r (.at (.sl 28 0 (List.length x62))))), (15, (.r (.at (.int .i64 (LN x2))))), (16, (GI x64))], [(21, (.mpb pMa pMb x65)), (22, (.var [.cell (.lst (.list (.int .i64)) x2 false), .cell (.int .i64 x3), .cell (.mp 21)])), (28, (.gr (.int .i64) 3 x62 true))]⟩
def f147_1_p1_x : ((List ((Int × (Int × (Int × Unit))) × (Int × (Int × Unit)))) × (List Int)) → GExit := fun (y0, y1) => (.exit 0)
def f147_1_p1_s (x2 : LL) (x3 : Int) : ((List ((Int × (Int × (Int × Unit))) × (Int × (Int × Unit)))) × (List Int)) → GS := fun (y0, y1) => ⟨[(4, (.r (.at (.sl 28 0 (List.length y1)))))], [(21, (.mpb pMa pMb y0)), (22, (.var [.cell (.lst (.list (.int .i64)) x2 false), .cell (.int .i64 x3), .cell (.mp 21)])), (28, (.gr (.int .i64) 3 y1 true))]⟩
def f147_1_p1_P (x2 : LL) (x3 x63 x64 : Int) (x65 : List ((Int × (Int × (Int × Unit))) × (Int × (Int × Unit)))) (x62 : LI) (r : (List ((Int × (Int × (Int × Unit))) × (Int × (Int × Unit)))) × (List Int)) : Prop := Lp cx f147_1_M 62 (part Tryz.f147 1) (f147_1_p1_H x2 x3 x63 x64 x65 x62) (f147_1_p1_x r) (f147_1_p1_s x2 x3 r)
def f147_1_v : ((List Int) × (List ((Int × (Int × (Int × Unit))) × (Int × (Int × Unit))))) → G := fun (y0, y1) => (GL y0)
def f147_1_k0 : ((List Int) × (List ((Int × (Int × (Int × Unit))) × (Int × (Int × Unit))))) → List (Nat × Blk) := fun (y0, y1) => [(21, (.mpb pMa pMb y1))]
def f147_1_k (x1 : List ((Int × (Int × (Int × Unit))) × (Int × (Int × Unit)))) (x2 : LL) (x3 : Int) : ((List Int) × (List ((Int × (Int × (Int × Unit))) × (Int × (Int × Unit))))) → List (Nat × Blk) := fun (y0, y1) => [(21, (.mpb pMa pMb y1)), (22, (.var [.cell (.lst (.list (.int .i64)) x2 false), .cell (.int .i64 x3), .cell (.mp 21)]))]
def f147_1_A (x1 : List ((Int × (Int × (Int × Unit))) × (Int × (Int × Unit)))) (x2 : LL) (x3 : Int) : List G := [(.r (.at (.ptr 22 0 0)))]
def f147_1_K (x1 : List ((Int × (Int × (Int × Unit))) × (Int × (Int × Unit)))) (x2 : LL) (x3 : Int) : List (Nat × Blk) := [(21, (.mpb pMa pMb x1)), (22, (.var [.cell (.lst (.list (.int .i64)) x2 false), .cell (.int .i64 x3), .cell (.mp 21)]))]
def f147_1_C (x1 : List ((Int × (Int × (Int × Unit))) × (Int × (Int × Unit)))) (x2 : LL) (x3 : Int) (r : (List Int) × (List ((Int × (Int × (Int × Unit))) × (Int × (Int × Unit))))) : Prop := CallOK cx 147 (f147_1_A x1 x2 x3) (f147_1_K x1 x2 x3) [] (f147_1_v r) (f147_1_k x1 x2 x3 r)

def f125_M : List Nat := []
def f125_v : (Int × (List ((Int × (Int × (Int × Unit))) × (Int × (Int × Unit))))) → G := fun (y0, y1) => (GI y0)
def f125_k0 : (Int × (List ((Int × (Int × (Int × Unit))) × (Int × (Int × Unit))))) → List (Nat × Blk) := fun (y0, y1) => [(21, (.mpb pMa pMb y1))]
def f125_k (x1 x2 : Int) (x3 : List ((Int × (Int × (Int × Unit))) × (Int × (Int × Unit)))) (x4 : LL) (x5 : Int) : (Int × (List ((Int × (Int × (Int × Unit))) × (Int × (Int × Unit))))) → List (Nat × Blk) := fun (y0, y1) => [(21, (.mpb pMa pMb y1)), (22, (.var [.cell (.lst (.list (.int .i64)) x4 false), .cell (.int .i64 x5), .cell (.mp 21)]))]
def f125_A (x1 x2 : Int) (x3 : List ((Int × (Int × (Int × Unit))) × (Int × (Int × Unit)))) (x4 : LL) (x5 : Int) : List G := [(.r (.at (.ptr 22 0 0))), (GI x1), (GI x2)]
def f125_K (x1 x2 : Int) (x3 : List ((Int × (Int × (Int × Unit))) × (Int × (Int × Unit)))) (x4 : LL) (x5 : Int) : List (Nat × Blk) := [(21, (.mpb pMa pMb x3)), (22, (.var [.cell (.lst (.list (.int .i64)) x4 false), .cell (.int .i64 x5), .cell (.mp 21)]))]
def f125_C (x1 x2 : Int) (x3 : List ((Int × (Int × (Int × Unit))) × (Int × (Int × Unit)))) (x4 : LL) (x5 : Int) (r : Int × (List ((Int × (Int × (Int × Unit))) × (Int × (Int × Unit))))) : Prop := CallOK cx 125 (f125_A x1 x2 x3 x4 x5) (f125_K x1 x2 x3 x4 x5) [] (f125_v r) (f125_k x1 x2 x3 x4 x5 r)

def f124_M : List Nat := [21, 22, 29]
def f124_p2_H (x7 : LI) (x5 : LL) (x6 x19 : Int) (x20 : List ((Int × (Int × (Int × Unit))) × (Int × (Int × Unit)))) (x18 : LI) : GS := ⟨[(1, (.r (.at (.fn 125)))), (6, (.r (.at (.ptr 22 0 0)))), (8, (.r (.at (.sl 29 0 (List.length x18))))), (20, (GL x7)), (21, (.r (.at (.int .i64 (LN x7))))), (22, (GI x19))], [(21, (.mpb pMa pMb x20)), (22, (.var [.cell (.lst (.list (.int .i64)) x5 false), .cell (.int .i64 x6), .cell (.mp 21)])), (29, (.gr (.int .i64) 3 x18 true))]⟩
def f124_p2_x : (List Int) → GExit := fun y0 => (.exit 0)
def f124_p2_s (x7 : LI) (x5 : LL) (x6 : Int) : (List Int) → GS := fun y0 => ⟨[(8, (.r (.at (.sl 29 0 (List.length y0)))))], [(29, (.gr (.int .i64) 3 y0 true))]⟩
def f124_p2_P (x7 : LI) (x5 : LL) (x6 x19 : Int) (x20 : List ((Int × (Int × (Int × Unit))) × (Int × (Int × Unit)))) (x18 : LI) (r : (List Int)) : Prop := Lp cx f124_M 37 (part Tryz.f124 2) (f124_p2_H x7 x5 x6 x19 x20 x18) (f124_p2_x r) (f124_p2_s x7 x5 x6 r)
def f124_v : ((List Int) × Int) → G := fun (y0, y1) => (.tup [(.at (.lst (.int .i64) y0 false)), (.at (.int .i64 y1))])
def f124_k0 : ((List Int) × Int) → List (Nat × Blk) := fun (y0, y1) => []
def f124_k (x1 : LL) : ((List Int) × Int) → List (Nat × Blk) := fun (y0, y1) => []
def f124_A (x1 : LL) : List G := [(.r (.at (.lst (.list (.int .i64)) x1 false))), (.r (.at (.fn 125)))]
def f124_K (x1 : LL) : List (Nat × Blk) := []
def f124_C (x1 : LL) (r : (List Int) × Int) : Prop := CallOK cx 124 (f124_A x1) (f124_K x1) [] (f124_v r) (f124_k x1 r)

def f98_M : List Nat := []
def f98_v : ((List Int) × Int) → G := fun (y0, y1) => (.tup [(.at (.lst (.int .i64) y0 false)), (.at (.int .i64 y1))])
def f98_k0 : ((List Int) × Int) → List (Nat × Blk) := fun (y0, y1) => []
def f98_k (x1 : LL) : ((List Int) × Int) → List (Nat × Blk) := fun (y0, y1) => []
def f98_A (x1 : LL) : List G := [(.r (.at (.lst (.list (.int .i64)) x1 false)))]
def f98_K (x1 : LL) : List (Nat × Blk) := []
def f98_C (x1 : LL) (r : (List Int) × Int) : Prop := CallOK cx 98 (f98_A x1) (f98_K x1) [] (f98_v r) (f98_k x1 r)

def f153_M : List Nat := []
def f153_v : Bool → G := fun y0 => (GB y0)
def f153_k0 : Bool → List (Nat × Blk) := fun y0 => []
def f153_k (x1 x2 x3 : Int) : Bool → List (Nat × Blk) := fun y0 => []
def f153_A (x1 x2 x3 : Int) : List G := [(GI x1), (GI x2), (GI x3)]
def f153_K (x1 x2 x3 : Int) : List (Nat × Blk) := []
def f153_C (x1 x2 x3 : Int) (r : Bool) : Prop := CallOK cx 153 (f153_A x1 x2 x3) (f153_K x1 x2 x3) [] (f153_v r) (f153_k x1 x2 x3 r)

def f171_M : List Nat := []
def f171_p0_H (x1 : Int) (x2 : Bool) : GS := ⟨[(0, (GI x1)), (5, (GB x2))], []⟩
def f171_p0_x : Int → GExit := fun y0 => .normal
def f171_p0_s (x1 : Int) (x2 : Bool) : Int → GS := fun y0 => ⟨[(0, (GI y0))], []⟩
def f171_p0_P (x1 : Int) (x2 : Bool) (r : Int) : Prop := Ex cx f171_M 9 (part Tryz.f171 0) (f171_p0_H x1 x2) (f171_p0_x r) (f171_p0_s x1 x2 r)
def f171_v : Int → G := fun y0 => (GI y0)
def f171_k0 : Int → List (Nat × Blk) := fun y0 => []
def f171_k (x1 : Int) (x2 : Bool) : Int → List (Nat × Blk) := fun y0 => []
def f171_A (x1 : Int) (x2 : Bool) : List G := [(GI x1), (GB x2)]
def f171_K (x1 : Int) (x2 : Bool) : List (Nat × Blk) := []
def f171_C (x1 : Int) (x2 : Bool) (r : Int) : Prop := CallOK cx 171 (f171_A x1 x2) (f171_K x1 x2) [] (f171_v r) (f171_k x1 x2 r)

def f152_M : List Nat := []
def f152_v : Int → G := fun y0 => (GI y0)
def f152_k0 : Int → List (Nat × Blk) := fun y0 => []
def f152_k (x1 x2 : Int) (x3 : Bool) (x4 x5 : LI) : Int → List (Nat × Blk) := fun y0 => [(33, (.var [.cell (.int .i64 x2), .cell (.bool x3), .arr (.int .i64) 16 x4, .arr (.int .i64) 9 x5]))]
def f152_A (x1 x2 : Int) (x3 : Bool) (x4 x5 : LI) : List G := [(.r (.at (.ptr 33 0 0))), (GI x1)]
def f152_K (x1 x2 : Int) (x3 : Bool) (x4 x5 : LI) : List (Nat × Blk) := [(33, (.var [.cell (.int .i64 x2), .cell (.bool x3), .arr (.int .i64) 16 x4, .arr (.int .i64) 9 x5]))]
def f152_C (x1 x2 : Int) (x3 : Bool) (x4 x5 : LI) (r : Int) : Prop := CallOK cx 152 (f152_A x1 x2 x3 x4 x5) (f152_K x1 x2 x3 x4 x5) [] (f152_v r) (f152_k x1 x2 x3 x4 x5 r)

def f170_M : List Nat := [32, 33, 34, 35]
def f170_p4_H (x1 : Int) (x2 : Bool) (x3 : LI) (x6 x7 : Int) (x8 : Bool) (x9 x10 : LI) : GS := ⟨[(1, (.r (.at (.ptr 32 0 0)))), (4, (.r (.at (.ptr 33 0 0)))), (5, (.r (.at (.ptr 34 0 0)))), (6, (.r (.at (.ptr 35 0 0)))), (30, (GI x6))], [(32, (.var [.cell (.int .i64 x1), .cell (.bool x2), .cell (.lst (.int .i64) x3 false)])), (33, (.var [.cell (.int .i64 x7), .cell (.bool x8), .arr (.int .i64) 16 x9, .arr (.int .i64) 9 x10])), (34, (.var [.arr (.int .i64) 9 ((List.replicate 9 0) : List Int)])), (35, (.var [.arr (.int .i64) 9 ((List.replicate 9 0) : List Int)]))]⟩
def f170_p4_x : (Int × Bool × (List Int) × (List Int)) → GExit := fun (y0, y1, y2, y3) => (.exit 1)
def f170_p4_s (x1 : Int) (x2 : Bool) (x3 : LI) : (Int × Bool × (List Int) × (List Int)) → GS := fun (y0, y1, y2, y3) => ⟨[(1, (.r (.at (.ptr 32 0 0)))), (4, (.r (.at (.ptr 33 0 0)))), (5, (.r (.at (.ptr 34 0 0)))), (6, (.r (.at (.ptr 35 0 0))))], [(32, (.var [.cell (.int .i64 x1), .cell (.bool x2), .cell (.lst (.int .i64) x3 false)])), (33, (.var [.cell (.int .i64 y0), .cell (.bool y1), .arr (.int .i64) 16 y2, .arr (.int .i64) 9 y3])), (34, (.var [.arr (.int .i64) 9 ((List.replicate 9 0) : List Int)])), (35, (.var [.arr (.int .i64) 9 ((List.replicate 9 0) : List Int)]))]⟩
def f170_p4_P (x1 : Int) (x2 : Bool) (x3 : LI) (x6 x7 : Int) (x8 : Bool) (x9 x10 : LI) (r : Int × Bool × (List Int) × (List Int)) : Prop := Lp cx f170_M 108 (part Tryz.f170 4) (f170_p4_H x1 x2 x3 x6 x7 x8 x9 x10) (f170_p4_x r) (f170_p4_s x1 x2 x3 r)
def f170_p12_1_H (x21 x28 : Int) (x3 : LI) (x31 x1 : Int) (x2 : Bool) (x22 : Int) (x23 : Bool) (x24 x25 x26 : LI) (x30 : Int) (x27 : LI) : GS := ⟨[(1, (.r (.at (.ptr 32 0 0)))), (4, (.r (.at (.ptr 33 0 0)))), (5, (.r (.at (.ptr 34 0 0)))), (6, (.r (.at (.ptr 35 0 0)))), (8, (GI x21)), (9, (GI x28)), (40, (GL x3)), (41, (.r (.at (.int .i64 (LN x3))))), (42, (GI x21)), (60, (.r (.at (.bool (x31 == 1)))))], [(32, (.var [.cell (.int .i64 x1), .cell (.bool x2), .cell (.lst (.int .i64) x3 false)])), (33, (.var [.cell (.int .i64 x22), .cell (.bool x23), .arr (.int .i64) 16 x24, .arr (.int .i64) 9 x25])), (34, (.var [.arr (.int .i64) 9 ((List.set x26 (0 + ((Int.toNat x28) * 1)) (w64 (x30 + 1))) : List Int)])), (35, (.var [.arr (.int .i64) 9 x27]))]⟩
def f170_p12_1_x : (List Int) → GExit := fun y0 => .normal
def f170_p12_1_s (x21 x28 : Int) (x3 : LI) (x31 x1 : Int) (x2 : Bool) (x22 : Int) (x23 : Bool) (x24 x25 x26 : LI) (x30 : Int) (x27 : LI) : (List Int) → GS := fun y0 => ⟨[(1, (.r (.at (.ptr 32 0 0)))), (4, (.r (.at (.ptr 33 0 0)))), (5, (.r (.at (.ptr 34 0 0)))), (6, (.r (.at (.ptr 35 0 0)))), (8, (GI x21)), (9, (GI x28)), (40, (GL x3)), (41, (.r (.at (.int .i64 (LN x3))))), (42, (GI x21))], [(32, (.var [.cell (.int .i64 x1), .cell (.bool x2), .cell (.lst (.int .i64) x3 false)])), (33, (.var [.cell (.int .i64 x22), .cell (.bool x23), .arr (.int .i64) 16 x24, .arr (.int .i64) 9 y0])), (34, (.var [.arr (.int .i64) 9 ((List.set x26 (0 + ((Int.toNat x28) * 1)) (w64 (x30 + 1))) : List Int)])), (35, (.var [.arr (.int .i64) 9 x27]))]⟩
def f170_p12_1_P (x21 x28 : Int) (x3 : LI) (x31 x1 : Int) (x2 : Bool) (x22 : Int) (x23 : Bool) (x24 x25 x26 : LI) (x30 : Int) (x27 : LI) (r : (List Int)) : Prop := Ex cx f170_M 108 (part Tryz.f170 12) (f170_p12_1_H x21 x28 x3 x31 x1 x2 x22 x23 x24 x25 x26 x30 x27) (f170_p12_1_x r) (f170_p12_1_s x21 x28 x3 x31 x1 x2 x22 x23 x24 x25 x26 x30 x27 r)
def f170_p8_H (x3 : LI) (x1 : Int) (x2 : Bool) (x21 x22 : Int) (x23 : Bool) (x24 x25 : LI) (x26 x27 : LI) : GS := ⟨[(1, (.r (.at (.ptr 32 0 0)))), (4, (.r (.at (.ptr 33 0 0)))), (5, (.r (.at (.ptr 34 0 0)))), (6, (.r (.at (.ptr 35 0 0)))), (40, (GL x3)), (41, (.r (.at (.int .i64 (LN x3))))), (42, (GI x21))], [(32, (.var [.cell (.int .i64 x1), .cell (.bool x2), .cell (.lst (.int .i64) x3 false)])), (33, (.var [.cell (.int .i64 x22), .cell (.bool x23), .arr (.int .i64) 16 x24, .arr (.int .i64) 9 x25])), (34, (.var [.arr (.int .i64) 9 x26])), (35, (.var [.arr (.int .i64) 9 x27]))]⟩
def f170_p8_x : f170_p8_R → GExit := fun
 | .c0 => .ret
 | .c1 y0 y1 y2 y3 y4 y5 => (.exit 3)
def f170_p8_s (x3 : LI) (x1 : Int) (x2 : Bool) : f170_p8_R → GS := fun
 | .c0 => ⟨[(2, (.r (.at .nilp))), (3, (.r (.at (.int .i64 2))))], []⟩
 | .c1 y0 y1 y2 y3 y4 y5 => ⟨[(1, (.r (.at (.ptr 32 0 0)))), (4, (.r (.at (.ptr 33 0 0)))), (5, (.r (.at (.ptr 34 0 0)))), (6, (.r (.at (.ptr 35 0 0))))], [(32, (.var [.cell (.int .i64 x1), .cell (.bool x2), .cell (.lst (.int .i64) x3 false)])), (33, (.var [.cell (.int .i64 y0), .cell (.bool y1), .arr (.int .i64) 16 y2, .arr (.int .i64) 9 y3])), (34, (.var [.arr (.int .i64) 9 y4])), (35, (.var [.arr (.int .i64) 9 y5]))]⟩
def f170_p8_P (x3 : LI) (x1 : Int) (x2 : Bool) (x21 x22 : Int) (x23 : Bool) (x24 x25 : LI) (x26 x27 : LI) (r : f170_p8_R) : Prop := Lp cx f170_M 108 (part Tryz.f170 8) (f170_p8_H x3 x1 x2 x21 x22 x23 x24 x25 x26 x27) (f170_p8_x r) (f170_p8_s x3 x1 x2 r)
def f170_p14_H (x1 : Int) (x2 : Bool) (x3 : LI) (x33 : Int) (x34 : Bool) (x35 x36 : LI) (x37 x38 : LI) (x39 : Int) : GS := ⟨[(1, (.r (.at (.ptr 32 0 0)))), (4, (.r (.at (.ptr 33 0 0)))), (5, (.r (.at (.ptr 34 0 0)))), (6, (.r (.at (.ptr 35 0 0)))), (10, (GI x39))], [(32, (.var [.cell (.int .i64 x1), .cell (.bool x2), .cell (.lst (.int .i64) x3 false)])), (33, (.var [.cell (.int .i64 x33), .cell (.bool x34), .arr (.int .i64) 16 x35, .arr (.int .i64) 9 x36])), (34, (.var [.arr (.int .i64) 9 x37])), (35, (.var [.arr (.int .i64) 9 x38]))]⟩
def f170_p14_x : f170_p14_R → GExit := fun
 | .c0 y0 => .ret
 | .c1 => (.exit 5)
def f170_p14_s (x1 : Int) (x2 : Bool) (x3 : LI) (x33 : Int) (x34 : Bool) (x35 x36 : LI) (x37 x38 : LI) : f170_p14_R → GS := fun
 | .c0 y0 => ⟨[(2, (.r (.at .nilp))), (3, (GI y0))], []⟩
 | .c1 => ⟨[(4, (.r (.at (.ptr 33 0 0))))], [(33, (.var [.cell (.int .i64 x33), .cell (.bool x34), .arr (.int .i64) 16 x35, .arr (.int .i64) 9 x36]))]⟩
def f170_p14_P (x1 : Int) (x2 : Bool) (x3 : LI) (x33 : Int) (x34 : Bool) (x35 x36 : LI) (x37 x38 : LI) (x39 : Int) (r : f170_p14_R) : Prop := Lp cx f170_M 108 (part Tryz.f170 14) (f170_p14_H x1 x2 x3 x33 x34 x35 x36 x37 x38 x39) (f170_p14_x r) (f170_p14_s x1 x2 x3 x33 x34 x35 x36 x37 x38 r)
def f170_v : f170_R → G := fun
 | .c0 y0 => (.tup [(.at .nilp), (.at (.int .i64 y0))])
 | .c1 y0 y1 y2 y3 y4 => (.tup [(.at (.ptr 33 0 0)), (.at (.int .i64 y0))])
def f170_k0 : f170_R → List (Nat × Blk) := fun
 | .c0 y0 => []
 | .c1 y0 y1 y2 y3 y4 => [(33, (.var [.cell (.int .i64 y1), .cell (.bool y2), .arr (.int .i64) 16 y3, .arr (.int .i64) 9 y4]))]
def f170_k (x1 : Int) (x2 : Bool) (x3 : LI) : f170_R → List (Nat × Blk) := fun
 | .c0 y0 => []
 | .c1 y0 y1 y2 y3 y4 => [(33, (.var [.cell (.int .i64 y1), .cell (.bool y2), .arr (.int .i64) 16 y3, .arr (.int .i64) 9 y4]))]
def f170_A (x1 : Int) (x2 : Bool) (x3 : LI) : List G := [(.r (.agg [.cell (.int .i64 x1), .cell (.bool x2), .cell (.lst (.int .i64) x3 false)]))]
def f170_K (x1 : Int) (x2 : Bool) (x3 : LI) : List (Nat × Blk) := []
def f170_C (x1 : Int) (x2 : Bool) (x3 : LI) (r : f170_R) : Prop := CallOK cx 170 (f170_A x1 x2 x3) (f170_K x1 x2 x3) [] (f170_v r) (f170_k x1 x2 x3 r)

def f151_M : List Nat := [31, 33]
def f151_v : f151_R → G := fun
 | .c0 y0 => (.tup [(.at .nilp), (.at (.int .i64 y0))])
 | .c1 y0 y1 y2 y3 y4 => (.tup [(.at (.ptr 33 0 0)), (.at (.int .i64 y0))])
def f151_k0 : f151_R → List (Nat × Blk) := fun
 | .c0 y0 => []
 | .c1 y0 y1 y2 y3 y4 => [(33, (.var [.cell (.int .i64 y1), .cell (.bool y2), .arr (.int .i64) 16 y3, .arr (.int .i64) 9 y4]))]
def f151_k (x1 : Int) (x2 : Bool) (x3 : LI) (x4 : Int) : f151_R → List (Nat × Blk) := fun
 | .c0 y0 => []
 | .c1 y0 y1 y2 y3 y4 => [(33, (.var [.cell (.int .i64 y1), .cell (.bool y2), .arr (.int .i64) 16 y3, .arr (.int .i64) 9 y4]))]
def f151_A (x1 : Int) (x2 : Bool) (x3 : LI) (x4 : Int) : List G := [(.r (.agg [.cell (.int .i64 x1), .cell (.bool x2), .cell (.lst (.int .i64) x3 false)])), (GI x4)]
def f151_K (x1 : Int) (x2 : Bool) (x3 : LI) (x4 : Int) : List (Nat × Blk) := []
def f151_C (x1 : Int) (x2 : Bool) (x3 : LI) (x4 : Int) (r : f151_R) : Prop := CallOK cx 151 (f151_A x1 x2 x3 x4) (f151_K x1 x2 x3 x4) [] (f151_v r) (f151_k x1 x2 x3 x4 r)

def f126_M : List Nat := [30, 33, 36]
def f126_p6_1_H (x4 x11 x12 : Int) (x18 : LI) (x19 : Int) (x22 x23 : Bool) (x7 : Int) (x8 : Bool) (x9 x10 : LI) : GS := ⟨[(1, (GI x4)), (6, (.r (.at (.ptr 33 0 0)))), (8, (GI x11)), (9, (GI x12)), (10, (.r (.at (.sl 36 0 (List.length x18))))), (11, (GI x19)), (69, (.r (.at (.bool (!(x22 == x23))))))], [(33, (.var [.cell (.int .i64 x7), .cell (.bool x8), .arr (.int .i64) 16 x9, .arr (.int .i64) 9 x10])), (36, (.gr (.int .i64) 3 x18 true))]⟩
def f126_p6_1_x : (List Int) → GExit := fun y0 => .normal
def f126_p6_1_s (x4 x11 x12 : Int) (x18 : LI) (x19 : Int) (x22 x23 : Bool) (x7 : Int) (x8 : Bool) (x9 x10 : LI) : (List Int) → GS := fun y0 => ⟨[(1, (GI x4)), (6, (.r (.at (.ptr 33 0 0)))), (8, (GI x11)), (9, (GI x12)), (10, (.r (.at (.sl 36 0 (List.length y0))))), (11, (GI x19))], [(33, (.var [.cell (.int .i64 x7), .cell (.bool x8), .arr (.int .i64) 16 x9, .arr (.int .i64) 9 x10])), (36, (.gr (.int .i64) 3 y0 true))]⟩
def f126_p6_1_P (x4 x11 x12 : Int) (x18 : LI) (x19 : Int) (x22 x23 : Bool) (x7 : Int) (x8 : Bool) (x9 x10 : LI) (r : (List Int)) : Prop := Ex cx f126_M 75 (part Tryz.f126 6) (f126_p6_1_H x4 x11 x12 x18 x19 x22 x23 x7 x8 x9 x10) (f126_p6_1_x r) (f126_p6_1_s x4 x11 x12 x18 x19 x22 x23 x7 x8 x9 x10 r)
def f126_p2_H (x4 x11 : Int) (x12 x7 : Int) (x8 : Bool) (x9 x10 : LI) (x19 : Int) (x18 : LI) : GS := ⟨[(1, (GI x4)), (6, (.r (.at (.ptr 33 0 0)))), (8, (GI x11)), (9, (GI x12)), (10, (.r (.at (.sl 36 0 (List.length x18))))), (11, (GI x19))], [(33, (.var [.cell (.int .i64 x7), .cell (.bool x8), .arr (.int .i64) 16 x9, .arr (.int .i64) 9 x10])), (36, (.gr (.int .i64) 3 x18 true))]⟩
def f126_p2_x : (List Int) → GExit := fun y0 => (.exit 0)
def f126_p2_s (x4 x11 : Int) (x12 x7 : Int) (x8 : Bool) (x9 x10 : LI) : (List Int) → GS := fun y0 => ⟨[(10, (.r (.at (.sl 36 0 (List.length y0)))))], [(36, (.gr (.int .i64) 3 y0 true))]⟩
def f126_p2_P (x4 x11 : Int) (x12 x7 : Int) (x8 : Bool) (x9 x10 : LI) (x19 : Int) (x18 : LI) (r : (List Int)) : Prop := Lp cx f126_M 75 (part Tryz.f126 2) (f126_p2_H x4 x11 x12 x7 x8 x9 x10 x19 x18) (f126_p2_x r) (f126_p2_s x4 x11 x12 x7 x8 x9 x10 r)
def f126_v : ((List Int) × Int) → G := fun (y0, y1) => (.tup [(.at (.lst (.int .i64) y0 false)), (.at (.int .i64 y1))])
def f126_k0 : ((List Int) × Int) → List (Nat × Blk) := fun (y0, y1) => []
def f126_k (x1 : Int) (x2 : Bool) (x3 : LI) (x4 : Int) : ((List Int) × Int) → List (Nat × Blk) := fun (y0, y1) => []
def f126_A (x1 : Int) (x2 : Bool) (x3 : LI) (x4 : Int) : List G := [(.r (.agg [.cell (.int .i64 x1), .cell (.bool x2), .cell (.lst (.int .i64) x3 false)])), (GI x4)]
def f126_K (x1 : Int) (x2 : Bool) (x3 : LI) (x4 : Int) : List (Nat × Blk) := []
def f126_C (x1 : Int) (x2 : Bool) (x3 : LI) (x4 : Int) (r : (List Int) × Int) : Prop := CallOK cx 126 (f126_A x1 x2 x3 x4) (f126_K x1 x2 x3 x4) [] (f126_v r) (f126_k x1 x2 x3 x4 r)

def f191_M : List Nat := []
def f191_v : Bool → G := fun y0 => (GB y0)
def f191_k0 : Bool → List (Nat × Blk) := fun y0 => []
def f191_k (x1 x2 x3 : Int) : Bool → List (Nat × Blk) := fun y0 => []
def f191_A (x1 x2 x3 : Int) : List G := [(GI x1), (GI x2), (GI x3)]
def f191_K (x1 x2 x3 : Int) : List (Nat × Blk) := []
def f191_C (x1 x2 x3 : Int) (r : Bool) : Prop := CallOK cx 191 (f191_A x1 x2 x3) (f191_K x1 x2 x3) [] (f191_v r) (f191_k x1 x2 x3 r)

def f204_M : List Nat := []
def f204_p4_H (x1 : LI) (x2 x3 : Int) : GS := ⟨[(3, (GI x2)), (14, (GL x1)), (15, (.r (.at (.int .i64 (LN x1))))), (16, (GI x3))], []⟩
def f204_p4_x : f204_p4_R → GExit := fun
 | .c0 y0 => .ret
 | .c1 => (.exit 1)
def f204_p4_s (x1 : LI) : f204_p4_R → GS := fun
 | .c0 y0 => ⟨[(2, (GI y0))], []⟩
 | .c1 => ⟨[], []⟩
def f204_p4_P (x1 : LI) (x2 x3 : Int) (r : f204_p4_R) : Prop := Lp cx f204_M 30 (part Tryz.f204 4) (f204_p4_H x1 x2 x3) (f204_p4_x r) (f204_p4_s x1 r)
def f204_v : Int → G := fun y0 => (GI y0)
def f204_k0 : Int → List (Nat × Blk) := fun y0 => []
def f204_k (x1 : LI) : Int → List (Nat × Blk) := fun y0 => []
def f204_A (x1 : LI) : List G := [(GL x1)]
def f204_K (x1 : LI) : List (Nat × Blk) := []
def f204_C (x1 : LI) (r : Int) : Prop := CallOK cx 204 (f204_A x1) (f204_K x1) [] (f204_v r) (f204_k x1 r)

def f205_M : List Nat := []
def f205_p0_H (x1 : LI) : GS := ⟨[(0, (GL x1)), (7, (.r (.at (.bool (decide ((LN x1) < 1))))))], []⟩
def f205_p0_x : Unit → GExit := fun _ => .normal
def f205_p0_s (x1 : LI) : Unit → GS := fun _ => ⟨[(0, (GL x1))], []⟩
def f205_p0_P (x1 : LI) (r : Unit) : Prop := Ex cx f205_M 25 (part Tryz.f205 0) (f205_p0_H x1) (f205_p0_x r) (f205_p0_s x1 r)
def f205_p2_H (x1 : LI) (x3 x4 : Int) : GS := ⟨[(0, (GL x1)), (3, (GI x3)), (4, (GI x4))], []⟩
def f205_p2_x : Int → GExit := fun y0 => (.exit 0)
def f205_p2_s (x1 : LI) : Int → GS := fun y0 => ⟨[(3, (GI y0))], []⟩
def f205_p2_P (x1 : LI) (x3 x4 : Int) (r : Int) : Prop := Lp cx f205_M 25 (part Tryz.f205 2) (f205_p2_H x1 x3 x4) (f205_p2_x r) (f205_p2_s x1 r)
def f205_v : Int → G := fun y0 => (GI y0)
def f205_k0 : Int → List (Nat × Blk) := fun y0 => []
def f205_k (x1 : LI) : Int → List (Nat × Blk) := fun y0 => []
def f205_A (x1 : LI) : List G := [(GL x1)]
def f205_K (x1 : LI) : List (Nat × Blk) := []
def f205_C (x1 : LI) (r : Int) : Prop := CallOK cx 205 (f205_A x1) (f205_K x1) [] (f205_v r) (f205_k x1 r)

def f206_M : List Nat := []
def f206_p0_H (x1 : LI) : GS := ⟨[(0, (GL x1)), (7, (.r (.at (.bool (decide ((LN x1) < 1))))))], []⟩
def f206_p0_x : Unit → GExit := fun _ => .normal
def f206_p0_s (x1 : LI) : Unit → GS := fun _ => ⟨[(0, (GL x1))], []⟩
def f206_p0_P (x1 : LI) (r : Unit) : Prop := Ex cx f206_M 25 (part Tryz.f206 0) (f206_p0_H x1) (f206_p0_x r) (f206_p0_s x1 r)
def f206_p2_H (x1 : LI) (x3 x4 : Int) : GS := ⟨[(0, (GL x1)), (3, (GI x3)), (4, (GI x4))], []⟩
def f206_p2_x : Int → GExit := fun y0 => (.exit 0)
def f206_p2_s (x1 : LI) : Int → GS := fun y0 => ⟨[(3, (GI y0))], []⟩
def f206_p2_P (x1 : LI) (x3 x4 : Int) (r : Int) : Prop := Lp cx f206_M 25 (part Tryz.f206 2) (f206_p2_H x1 x3 x4) (f206_p2_x r) (f206_p2_s x1 r)
def f206_v : Int → G := fun y0 => (GI y0)
def f206_k0 : Int → List (Nat × Blk) := fun y0 => []
def f206_k (x1 : LI) : Int → List (Nat × Blk) := fun y0 => []
def f206_A (x1 : LI) : List G := [(GL x1)]
def f206_K (x1 : LI) : List (Nat × Blk) := []
def f206_C (x1 : LI) (r : Int) : Prop := CallOK cx 206 (f206_A x1) (f206_K x1) [] (f206_v r) (f206_k x1 r)

def f190_M : List Nat := [38]
def f190_v : ((List Int) × (List Int) × Int) → G := fun (y0, y1, y2) => (.tup [(.agg [.cell (.lst (.int .i64) y0 false), .cell (.lst (.int .i64) y1 false)]), (.at (.int .i64 y2))])
def f190_k0 : ((List Int) × (List Int) × Int) → List (Nat × Blk) := fun (y0, y1, y2) => []
def f190_k (x1 x2 : LI) : ((List Int) × (List Int) × Int) → List (Nat × Blk) := fun (y0, y1, y2) => []
def f190_A (x1 x2 : LI) : List G := [(GL x1), (GL x2)]
def f190_K (x1 x2 : LI) : List (Nat × Blk) := []
def f190_C (x1 x2 : LI) (r : (List Int) × (List Int) × Int) : Prop := CallOK cx 190 (f190_A x1 x2) (f190_K x1 x2) [] (f190_v r) (f190_k x1 x2 r)

def f172_M : List Nat := [37, 39]
def f172_p0_H (x6 : Int) (x7 : Bool) (x4 x5 : LI) : GS := ⟨[(6, (.r (.at (.ptr 37 0 0)))), (8, (.r (.at (.ptr 39 0 0)))), (9, (GI x6)), (22, (.r (.at (.bool (!x7)))))], [(37, (.var [.cell .nils, .cell .nils])), (39, (.var [.cell (.lst (.int .i64) x4 false), .cell (.lst (.int .i64) x5 false)]))]⟩
def f172_p0_x : Int → GExit := fun y0 => .normal
def f172_p0_s (x6 : Int) (x7 : Bool) (x4 x5 : LI) : Int → GS := fun y0 => ⟨[(6, (.r (.at (.ptr 37 0 0)))), (8, (.r (.at (.ptr 39 0 0)))), (9, (GI y0))], [(37, (.var [.cell .nils, .cell .nils])), (39, (.var [.cell (.lst (.int .i64) x4 false), .cell (.lst (.int .i64) x5 false)]))]⟩
def f172_p0_P (x6 : Int) (x7 : Bool) (x4 x5 : LI) (r : Int) : Prop := Ex cx f172_M 25 (part Tryz.f172 0) (f172_p0_H x6 x7 x4 x5) (f172_p0_x r) (f172_p0_s x6 x7 x4 x5 r)
def f172_v : ((List Int) × (List Int) × Int) → G := fun (y0, y1, y2) => (.tup [(.agg [.cell (.lst (.int .i64) y0 false), .cell (.lst (.int .i64) y1 false)]), (.at (.int .i64 y2))])
def f172_k0 : ((List Int) × (List Int) × Int) → List (Nat × Blk) := fun (y0, y1, y2) => []
def f172_k (x1 x2 : LI) (x3 : Int) : ((List Int) × (List Int) × Int) → List (Nat × Blk) := fun (y0, y1, y2) => []
def f172_A (x1 x2 : LI) (x3 : Int) : List G := [(GL x1), (GL x2), (GI x3)]
def f172_K (x1 x2 : LI) (x3 : Int) : List (Nat × Blk) := []
def f172_C (x1 x2 : LI) (x3 : Int) (r : (List Int) × (List Int) × Int) : Prop := CallOK cx 172 (f172_A x1 x2 x3) (f172_K x1 x2 x3) [] (f172_v r) (f172_k x1 x2 x3 r)

def f192_1_M : List Nat := []
def f192_1_v : Int → G := fun y0 => (GI y0)
def f192_1_k0 : Int → List (Nat × Blk) := fun y0 => []
def f192_1_k (x1 : Int) (x2 : LI) (x3 x4 x5 : Int) : Int → List (Nat × Blk) := fun y0 => [(43, (.var [.cell (.lst (.int .i64) x2 false)])), (45, (.var [.cell (.int .i64 x3)])), (48, (.var [.cell (.int .i64 x4)])), (49, (.var [.cell (.int .i64 x5)]))]
def f192_1_A (x1 : Int) (x2 : LI) (x3 x4 x5 : Int) : List G := [(GI x1), (.r (.at (.ptr 43 0 0))), (.r (.at (.ptr 48 0 0))), (.r (.at (.ptr 45 0 0))), (.r (.at (.ptr 49 0 0)))]
def f192_1_K (x1 : Int) (x2 : LI) (x3 x4 x5 : Int) : List (Nat × Blk) := [(43, (.var [.cell (.lst (.int .i64) x2 false)])), (45, (.var [.cell (.int .i64 x3)])), (48, (.var [.cell (.int .i64 x4)])), (49, (.var [.cell (.int .i64 x5)]))]
def f192_1_C (x1 : Int) (x2 : LI) (x3 x4 x5 : Int) (r : Int) : Prop := CallOK cx 192 (f192_1_A x1 x2 x3 x4 x5) (f192_1_K x1 x2 x3 x4 x5) [] (f192_1_v r) (f192_1_k x1 x2 x3 x4 x5 r)

def f173_M : List Nat := [41, 42, 43, 44, 45, 46, 47, 48, 49, 50, 51]
def f173_p1_H (x3 : Int) (x1 x2 : LI) (x6 : Int) (x5 : LI) : GS := ⟨[(1, (GI x3)), (2, (.r (.at (.ptr 41 0 0)))), (6, (.r (.at (.ptr 43 0 0)))), (26, (.r (.at (.int .i64 (((Int.toNat (w64 (x3 + 1))) : Nat) : Int))))), (27, (GI x6))], [(41, (.var [.cell (.lst (.int .i64) x1 false), .cell (.lst (.int .i64) x2 false)])), (42, (.gr (.int .i64) 3 x5 true)), (43, (.var [.cell (.sl 42 0 (Int.toNat (w64 (x3 + 1))))]))]⟩
def f173_p1_x : (List Int) → GExit := fun y0 => (.exit 0)
def f173_p1_s (x3 : Int) (x1 x2 : LI) : (List Int) → GS := fun y0 => ⟨[(1, (GI x3)), (2, (.r (.at (.ptr 41 0 0)))), (6, (.r (.at (.ptr 43 0 0))))], [(41, (.var [.cell (.lst (.int .i64) x1 false), .cell (.lst (.int .i64) x2 false)])), (42, (.gr (.int .i64) 3 y0 true)), (43, (.var [.cell (.sl 42 0 (Int.toNat (w64 (x3 + 1))))]))]⟩
def f173_p1_P (x3 : Int) (x1 x2 : LI) (x6 : Int) (x5 : LI) (r : (List Int)) : Prop := Lp cx f173_M 178 (part Tryz.f173 1) (f173_p1_H x3 x1 x2 x6 x5) (f173_p1_x r) (f173_p1_s x3 x1 x2 r)
def f173_p17_17_H (x3 : Int) (x1 : LI) (x134 x137 : Int) (x136 x167 : Int) (x2 x135 : LI) (x133 : LL) (x179 x180 : LI) (x182 : Int) (x183 : LI) : GS := ⟨[(1, (GI x3)), (2, (.r (.at (.ptr 41 0 0)))), (6, (.r (.at (.ptr 43 0 0)))), (8, (.r (.at (.sl 44 0 (Int.toNat (LN x1)))))), (9, (GI x134)), (10, (.r (.at (.ptr 45 0 0)))), (11, (GI x137)), (12, (.r (.at (.sl 46 0 (Int.toNat (w64 (x3 + 1))))))), (13, (.r (.at (.sl 47 0 (Int.toNat (w64 (x3 + 1))))))), (14, (.r (.at (.ptr 48 0 0)))), (15, (.r (.at (.sl 50 0 (List.length x183))))), (16, (.r (.at (.ptr 49 0 0)))), (17, (.r (.at (.app2 (.app2 (.app2 (.app2 (.fn 192) (.ptr 43 0 0)) (.ptr 48 0 0)) (.ptr 45 0 0)) (.ptr 49 0 0))))), (67, (.r (.at (.int .i64 (if (w64 (x3 + 1)) < x136 then (w64 (x3 + 1)) else x136))))), (68, (GI x167))], [(41, (.var [.cell (.lst (.int .i64) x1 false), .cell (.lst (.int .i64) x2 false)])), (43, (.var [.cell (.lst (.int .i64) x135 false)])), (44, (.gr (.list (.int .i64)) 23 x133 true)), (45, (.var [.cell (.int .i64 x136)])), (46, (.gr (.int .i64) 3 x179 true)), (47, (.gr (.int .i64) 3 x180 true)), (48, (.var [.cell (.int .i64 x167)])), (49, (.var [.cell (.int .i64 x182)])), (50, (.gr (.int .i64) 3 x183 true))]⟩
def f173_p17_17_x : (List Int) → GExit := fun y0 => (.exit 8)
def f173_p17_17_s (x3 : Int) (x1 : LI) (x134 x137 : Int) (x136 x167 : Int) (x2 x135 : LI) (x133 : LL) (x179 x180 : LI) (x182 : Int) : (List Int) → GS := fun y0 => ⟨[(1, (GI x3)), (2, (.r (.at (.ptr 41 0 0)))), (6, (.r (.at (.ptr 43 0 0)))), (8, (.r (.at (.sl 44 0 (Int.toNat (LN x1)))))), (9, (GI x134)), (10, (.r (.at (.ptr 45 0 0)))), (11, (GI x137)), (12, (.r (.at (.sl 46 0 (Int.toNat (w64 (x3 + 1))))))), (13, (.r (.at (.sl 47 0 (Int.toNat (w64 (x3 + 1))))))), (14, (.r (.at (.ptr 48 0 0)))), (15, (.r (.at (.sl 50 0 (List.length y0))))), (16, (.r (.at (.ptr 49 0 0)))), (17, (.r (.at (.app2 (.app2 (.app2 (.app2 (.fn 192) (.ptr 43 0 0)) (.ptr 48 0 0)) (.ptr 45 0 0)) (.ptr 49 0 0))))), (67, (.r (.at (.int .i64 (if (w64 (x3 + 1)) < x136 then (w64 (x3 + 1)) else x136))))), (68, (GI x167))], [(41, (.var [.cell (.lst (.int .i64) x1 false), .cell (.lst (.int .i64) x2 false)])), (43, (.var [.cell (.lst (.int .i64) x135 false)])), (44, (.gr (.list (.int .i64)) 23 x133 true)), (45, (.var [.cell (.int .i64 x136)])), (46, (.gr (.int .i64) 3 x179 true)), (47, (.gr (.int .i64) 3 x180 true)), (48, (.var [.cell (.int .i64 x167)])), (49, (.var [.cell (.int .i64 x182)])), (50, (.gr (.int .i64) 3 y0 true))]⟩
def f173_p17_17_P (x3 : Int) (x1 : LI) (x134 x137 : Int) (x136 x167 : Int) (x2 x135 : LI) (x133 : LL) (x179 x180 : LI) (x182 : Int) (x183 : LI) (r : (List Int)) : Prop := Lp cx f173_M 178 (part Tryz.f173 17) (f173_p17_17_H x3 x1 x134 x137 x136 x167 x2 x135 x133 x179 x180 x182 x183) (f173_p17_17_x r) (f173_p17_17_s x3 x1 x134 x137 x136 x167 x2 x135 x133 x179 x180 x182 r)
def f173_p20_17_H (x3 : Int) (x1 : LI) (x134 x137 : Int) (x187 : LI) (x182 x136 : Int) (x167 x188 : Int) (x2 x135 : LI) (x133 : LL) (x179 x180 : LI) : GS := ⟨[(1, (GI x3)), (2, (.r (.at (.ptr 41 0 0)))), (6, (.r (.at (.ptr 43 0 0)))), (8, (.r (.at (.sl 44 0 (Int.toNat (LN x1)))))), (9, (GI x134)), (10, (.r (.at (.ptr 45 0 0)))), (11, (GI x137)), (12, (.r (.at (.sl 46 0 (Int.toNat (w64 (x3 + 1))))))), (13, (.r (.at (.sl 47 0 (Int.toNat (w64 (x3 + 1))))))), (14, (.r (.at (.ptr 48 0 0)))), (15, (.r (.at (.sl 50 0 (List.length (x187 ++ ([x182] : List Int))))))), (16, (.r (.at (.ptr 49 0 0)))), (17, (.r (.at (.app2 (.app2 (.app2 (.app2 (.fn 192) (.ptr 43 0 0)) (.ptr 48 0 0)) (.ptr 45 0 0)) (.ptr 49 0 0))))), (67, (.r (.at (.int .i64 (if (w64 (x3 + 1)) < x136 then (w64 (x3 + 1)) else x136))))), (68, (GI x167)), (113, (.r (.at (.bool (decide (x188 < (w64 (x182 - x137))))))))], [(41, (.var [.cell (.lst (.int .i64) x1 false), .cell (.lst (.int .i64) x2 false)])), (43, (.var [.cell (.lst (.int .i64) x135 false)])), (44, (.gr (.list (.int .i64)) 23 x133 true)), (45, (.var [.cell (.int .i64 x136)])), (46, (.gr (.int .i64) 3 x179 true)), (47, (.gr (.int .i64) 3 x180 true)), (48, (.var [.cell (.int .i64 x167)])), (49, (.var [.cell (.int .i64 x182)])), (50, (.gr (.int .i64) 3 ((x187 ++ ([x182] : List Int)) : List Int) true))]⟩
def f173_p20_17_x : (List Int) → GExit := fun y0 => .normal
def f173_p20_17_s (x3 : Int) (x1 : LI) (x134 x137 : Int) (x187 : LI) (x182 x136 : Int) (x167 x188 : Int) (x2 x135 : LI) (x133 : LL) (x179 x180 : LI) : (List Int) → GS := fun y0 => ⟨[(1, (GI x3)), (2, (.r (.at (.ptr 41 0 0)))), (6, (.r (.at (.ptr 43 0 0)))), (8, (.r (.at (.sl 44 0 (Int.toNat (LN x1)))))), (9, (GI x134)), (10, (.r (.at (.ptr 45 0 0)))), (11, (GI x137)), (12, (.r (.at (.sl 46 0 (Int.toNat (w64 (x3 + 1))))))), (13, (.r (.at (.sl 47 0 (Int.toNat (w64 (x3 + 1))))))), (14, (.r (.at (.ptr 48 0 0)))), (15, (.r (.at (.sl 50 0 (List.length y0))))), (16, (.r (.at (.ptr 49 0 0)))), (17, (.r (.at (.app2 (.app2 (.app2 (.app2 (.fn 192) (.ptr 43 0 0)) (.ptr 48 0 0)) (.ptr 45 0 0)) (.ptr 49 0 0))))), (67, (.r (.at (.int .i64 (if (w64 (x3 + 1)) < x136 then (w64 (x3 + 1)) else x136))))), (68, (GI x167))], [(41, (.var [.cell (.lst (.int .i64) x1 false), .cell (.lst (.int .i64) x2 false)])), (43, (.var [.cell (.lst (.int .i64) x135 false)])), (44, (.gr (.list (.int .i64)) 23 x133 true)), (45, (.var [.cell (.int .i64 x136)])), (46, (.gr (.int .i64) 3 x179 true)), (47, (.gr (.int .i64) 3 x180 true)), (48, (.var [.cell (.int .i64 x167)])), (49, (.var [.cell (.int .i64 x182)])), (50, (.gr (.int .i64) 3 y0 true))]⟩
def f173_p20_17_P (x3 : Int) (x1 : LI) (x134 x137 : Int) (x187 : LI) (x182 x136 : Int) (x167 x188 : Int) (x2 x135 : LI) (x133 : LL) (x179 x180 : LI) (r : (List Int)) : Prop := Ex cx f173_M 178 (part Tryz.f173 20) (f173_p20_17_H x3 x1 x134 x137 x187 x182 x136 x167 x188 x2 x135 x133 x179 x180) (f173_p20_17_x r) (f173_p20_17_s x3 x1 x134 x137 x187 x182 x136 x167 x188 x2 x135 x133 x179 x180 r)
def f173_p13_5_H (x3 : Int) (x1 : LI) (x134 x137 : Int) (x136 x167 : Int) (x2 x135 : LI) (x133 : LL) (x179 x180 : LI) (x182 : Int) (x181 : LI) : GS := ⟨[(1, (GI x3)), (2, (.r (.at (.ptr 41 0 0)))), (6, (.r (.at (.ptr 43 0 0)))), (8, (.r (.at (.sl 44 0 (Int.toNat (LN x1)))))), (9, (GI x134)), (10, (.r (.at (.ptr 45 0 0)))), (11, (GI x137)), (12, (.r (.at (.sl 46 0 (Int.toNat (w64 (x3 + 1))))))), (13, (.r (.at (.sl 47 0 (Int.toNat (w64 (x3 + 1))))))), (14, (.r (.at (.ptr 48 0 0)))), (15, (.r (.at (.sl 50 0 (List.length x181))))), (16, (.r (.at (.ptr 49 0 0)))), (67, (.r (.at (.int .i64 (if (w64 (x3 + 1)) < x136 then (w64 (x3 + 1)) else x136))))), (68, (GI x167))], [(41, (.var [.cell (.lst (.int .i64) x1 false), .cell (.lst (.int .i64) x2 false)])), (43, (.var [.cell (.lst (.int .i64) x135 false)])), (44, (.gr (.list (.int .i64)) 23 x133 true)), (45, (.var [.cell (.int .i64 x136)])), (46, (.gr (.int .i64) 3 x179 true)), (47, (.gr (.int .i64) 3 x180 true)), (48, (.var [.cell (.int .i64 x167)])), (49, (.var [.cell (.int .i64 x182)])), (50, (.gr (.int .i64) 3 x181 true))]⟩
def f173_p13_5_x : ((List Int) × (List Int)) → GExit := fun (y0, y1) => (.exit 6)
def f173_p13_5_s (x3 : Int) (x1 : LI) (x134 x137 : Int) (x136 x167 : Int) (x2 x135 : LI) (x133 : LL) : ((List Int) × (List Int)) → GS := fun (y0, y1) => ⟨[(1, (GI x3)), (2, (.r (.at (.ptr 41 0 0)))), (6, (.r (.at (.ptr 43 0 0)))), (8, (.r (.at (.sl 44 0 (Int.toNat (LN x1)))))), (9, (GI x134)), (10, (.r (.at (.ptr 45 0 0)))), (11, (GI x137)), (12, (.r (.at (.sl 46 0 (Int.toNat (w64 (x3 + 1))))))), (13, (.r (.at (.sl 47 0 (Int.toNat (w64 (x3 + 1))))))), (67, (.r (.at (.int .i64 (if (w64 (x3 + 1)) < x136 then (w64 (x3 + 1)) else x136))))), (68, (GI x167))], [(41, (.var [.cell (.lst (.int .i64) x1 false), .cell (.lst (.int .i64) x2 false)])), (43, (.var [.cell (.lst (.int .i64) x135 false)])), (44, (.gr (.list (.int .i64)) 23 x133 true)), (45, (.var [.cell (.int .i64 x136)])), (46, (.gr (.int .i64) 3 y0 true)), (47, (.gr (.int .i64) 3 y1 true))]⟩
def f173_p13_5_P (x3 : Int) (x1 : LI) (x134 x137 : Int) (x136 x167 : Int) (x2 x135 : LI) (x133 : LL) (x179 x180 : LI) (x182 : Int) (x181 : LI) (r : (List Int) × (List Int)) : Prop := Lp cx f173_M 178 (part Tryz.f173 13) (f173_p13_5_H x3 x1 x134 x137 x136 x167 x2 x135 x133 x179 x180 x182 x181) (f173_p13_5_x r) (f173_p13_5_s x3 x1 x134 x137 x136 x167 x2 x135 x133 r)
def f173_p9_2_H (x3 : Int) (x1 : LI) (x134 x137 x136 : Int) (x2 x135 : LI) (x133 : LL) (x167 : Int) (x165 x166 : LI) : GS := ⟨[(1, (GI x3)), (2, (.r (.at (.ptr 41 0 0)))), (6, (.r (.at (.ptr 43 0 0)))), (8, (.r (.at (.sl 44 0 (Int.toNat (LN x1)))))), (9, (GI x134)), (10, (.r (.at (.ptr 45 0 0)))), (11, (GI x137)), (12, (.r (.at (.sl 46 0 (Int.toNat (w64 (x3 + 1))))))), (13, (.r (.at (.sl 47 0 (Int.toNat (w64 (x3 + 1))))))), (67, (.r (.at (.int .i64 (if (w64 (x3 + 1)) < x136 then (w64 (x3 + 1)) else x136))))), (68, (GI x167))], [(41, (.var [.cell (.lst (.int .i64) x1 false), .cell (.lst (.int .i64) x2 false)])), (43, (.var [.cell (.lst (.int .i64) x135 false)])), (44, (.gr (.list (.int .i64)) 23 x133 true)), (45, (.var [.cell (.int .i64 x136)])), (46, (.gr (.int .i64) 3 x165 true)), (47, (.gr (.int .i64) 3 x166 true))]⟩
def f173_p9_2_x : ((List Int) × (List Int)) → GExit := fun (y0, y1) => (.exit 4)
def f173_p9_2_s (x3 : Int) (x1 : LI) (x134 x137 x136 : Int) (x2 x135 : LI) (x133 : LL) : ((List Int) × (List Int)) → GS := fun (y0, y1) => ⟨[(1, (GI x3)), (2, (.r (.at (.ptr 41 0 0)))), (6, (.r (.at (.ptr 43 0 0)))), (8, (.r (.at (.sl 44 0 (Int.toNat (LN x1)))))), (9, (GI x134)), (12, (.r (.at (.sl 46 0 (Int.toNat (w64 (x3 + 1))))))), (13, (.r (.at (.sl 47 0 (Int.toNat (w64 (x3 + 1)))))))], [(41, (.var [.cell (.lst (.int .i64) x1 false), .cell (.lst (.int .i64) x2 false)])), (43, (.var [.cell (.lst (.int .i64) x135 false)])), (44, (.gr (.list (.int .i64)) 23 x133 true)), (46, (.gr (.int .i64) 3 y0 true)), (47, (.gr (.int .i64) 3 y1 true))]⟩
def f173_p9_2_P (x3 : Int) (x1 : LI) (x134 x137 x136 : Int) (x2 x135 : LI) (x133 : LL) (x167 : Int) (x165 x166 : LI) (r : (List Int) × (List Int)) : Prop := Lp cx f173_M 178 (part Tryz.f173 9) (f173_p9_2_H x3 x1 x134 x137 x136 x2 x135 x133 x167 x165 x166) (f173_p9_2_x r) (f173_p9_2_s x3 x1 x134 x137 x136 x2 x135 x133 r)
def f173_p5_H (x3 : Int) (x1 x2 : LI) (x134 : Int) (x135 : LI) (x133 : LL) : GS := ⟨[(1, (GI x3)), (2, (.r (.at (.ptr 41 0 0)))), (6, (.r (.at (.ptr 43 0 0)))), (8, (.r (.at (.sl 44 0 (Int.toNat (LN x1)))))), (9, (GI x134))], [(41, (.var [.cell (.lst (.int .i64) x1 false), .cell (.lst (.int .i64) x2 false)])), (43, (.var [.cell (.lst (.int .i64) x135 false)])), (44, (.gr (.list (.int .i64)) 23 x133 true))]⟩
def f173_p5_x : ((List Int) × (List (List Int))) → GExit := fun (y0, y1) => (.exit 2)
def f173_p5_s (x3 : Int) (x1 x2 : LI) : ((List Int) × (List (List Int))) → GS := fun (y0, y1) => ⟨[(1, (GI x3)), (2, (.r (.at (.ptr 41 0 0)))), (6, (.r (.at (.ptr 43 0 0)))), (8, (.r (.at (.sl 44 0 (Int.toNat (LN x1))))))], [(41, (.var [.cell (.lst (.int .i64) x1 false), .cell (.lst (.int .i64) x2 false)])), (43, (.var [.cell (.lst (.int .i64) y0 false)])), (44, (.gr (.list (.int .i64)) 23 y1 true))]⟩
def f173_p5_P (x3 : Int) (x1 x2 : LI) (x134 : Int) (x135 : LI) (x133 : LL) (r : (List Int) × (List (List Int))) : Prop := Lp cx f173_M 178 (part Tryz.f173 5) (f173_p5_H x3 x1 x2 x134 x135 x133) (f173_p5_x r) (f173_p5_s x3 x1 x2 r)
def f173_p23_H (x1 x2 : LI) (x197 : LL) (x205 x206 : Int) (x204 : LI) : GS := ⟨[(1, (GI x205)), (2, (.r (.at (.ptr 41 0 0)))), (19, (.r (.at (.sl 51 0 (List.length x204))))), (150, (.r (.at (.sl 44 0 (Int.toNat (LN x1)))))), (151, (.r (.at (.int .i64 (((Int.toNat (LN x1)) : Nat) : Int))))), (152, (GI x206))], [(41, (.var [.cell (.lst (.int .i64) x1 false), .cell (.lst (.int .i64) x2 false)])), (44, (.gr (.list (.int .i64)) 23 x197 true)), (51, (.gr (.int .i64) 3 x204 true))]⟩
def f173_p23_x : (List Int) → GExit := fun y0 => (.exit 10)
def f173_p23_s (x1 x2 : LI) (x197 : LL) : (List Int) → GS := fun y0 => ⟨[(19, (.r (.at (.sl 51 0 (List.length y0)))))], [(51, (.gr (.int .i64) 3 y0 true))]⟩
def f173_p23_P (x1 x2 : LI) (x197 : LL) (x205 x206 : Int) (x204 : LI) (r : (List Int)) : Prop := Lp cx f173_M 178 (part Tryz.f173 23) (f173_p23_H x1 x2 x197 x205 x206 x204) (f173_p23_x r) (f173_p23_s x1 x2 x197 r)
def f173_v : ((List Int) × Int) → G := fun (y0, y1) => (.tup [(.at (.lst (.int .i64) y0 false)), (.at (.int .i64 y1))])
def f173_k0 : ((List Int) × Int) → List (Nat × Blk) := fun (y0, y1) => []
def f173_k (x1 x2 : LI) (x3 : Int) : ((List Int) × Int) → List (Nat × Blk) := fun (y0, y1) => []
def f173_A (x1 x2 : LI) (x3 : Int) : List G := [(.r (.agg [.cell (.lst (.int .i64) x1 false), .cell (.lst (.int .i64) x2 false)])), (GI x3)]
def f173_K (x1 x2 : LI) (x3 : Int) : List (Nat × Blk) := []
def f173_C (x1 x2 : LI) (x3 : Int) (r : (List Int) × Int) : Prop := CallOK cx 173 (f173_A x1 x2 x3) (f173_K x1 x2 x3) [] (f173_v r) (f173_k x1 x2 x3 r)

def f154_M : List Nat := [40]
def f154_v : ((List Int) × Int) → G := fun (y0, y1) => (.tup [(.at (.lst (.int .i64) y0 false)), (.at (.int .i64 y1))])
def f154_k0 : ((List Int) × Int) → List (Nat × Blk) := fun (y0, y1) => []
def f154_k (x1 x2 : LI) (x3 : Int) : ((List Int) × Int) → List (Nat × Blk) := fun (y0, y1) => []
def f154_A (x1 x2 : LI) (x3 : Int) : List G := [(GL x1), (GL x2), (GI x3)]
def f154_K (x1 x2 : LI) (x3 : Int) : List (Nat × Blk) := []
def f154_C (x1 x2 : LI) (x3 : Int) (r : (List Int) × Int) : Prop := CallOK cx 154 (f154_A x1 x2 x3) (f154_K x1 x2 x3) [] (f154_v r) (f154_k x1 x2 x3 r)

def f195_M : List Nat := []
def f195_v : Bool → G := fun y0 => (GB y0)
def f195_k0 : Bool → List (Nat × Blk) := fun y0 => []
def f195_k (x1 x2 x3 : Int) : Bool → List (Nat × Blk) := fun y0 => []
def f195_A (x1 x2 x3 : Int) : List G := [(GI x1), (GI x2), (GI x3)]
def f195_K (x1 x2 x3 : Int) : List (Nat × Blk) := []
def f195_C (x1 x2 x3 : Int) (r : Bool) : Prop := CallOK cx 195 (f195_A x1 x2 x3) (f195_K x1 x2 x3) [] (f195_v r) (f195_k x1 x2 x3 r)

def f194_M : List Nat := []
def f194_v : Bool → G := fun y0 => (GB y0)
def f194_k0 : Bool → List (Nat × Blk) := fun y0 => []
def f194_k (x1 x2 : Int) : Bool → List (Nat × Blk) := fun y0 => [(52, (.var [.cell (.int .i64 x2)]))]
def f194_A (x1 x2 : Int) : List G := [(GI x1), (.r (.at (.ptr 52 0 0)))]
def f194_K (x1 x2 : Int) : List (Nat × Blk) := [(52, (.var [.cell (.int .i64 x2)]))]
def f194_C (x1 x2 : Int) (r : Bool) : Prop := CallOK cx 194 (f194_A x1 x2) (f194_K x1 x2) [] (f194_v r) (f194_k x1 x2 r)

def f207_1_M : List Nat := []
def f207_1_p1_H (x1 : LI) (x2 x3 : Int) : GS := ⟨[(0, (GL x1)), (1, (.r (.at (.app2 (.fn 194) (.ptr 52 0 0))))), (7, (.r (.at (.int .i64 (LN x1))))), (8, (GI x3))], [(52, (.var [.cell (.int .i64 x2)]))]⟩
def f207_1_p1_x : f207_1_p1_R → GExit := fun
 | .c0 y0 => .ret
 | .c1 => (.exit 0)
def f207_1_p1_s (x1 : LI) (x2 : Int) : f207_1_p1_R → GS := fun
 | .c0 y0 => ⟨[(4, (GI y0))], [(52, (.var [.cell (.int .i64 x2)]))]⟩
 | .c1 => ⟨[], [(52, (.var [.cell (.int .i64 x2)]))]⟩
def f207_1_p1_P (x1 : LI) (x2 x3 : Int) (r : f207_1_p1_R) : Prop := Lp cx f207_1_M 19 (part Tryz.f207 1) (f207_1_p1_H x1 x2 x3) (f207_1_p1_x r) (f207_1_p1_s x1 x2 r)
def f207_1_v : Int → G := fun y0 => (GI y0)
def f207_1_k0 : Int → List (Nat × Blk) := fun y0 => []
def f207_1_k (x1 : LI) (x2 : Int) : Int → List (Nat × Blk) := fun y0 => [(52, (.var [.cell (.int .i64 x2)]))]
def f207_1_A (x1 : LI) (x2 : Int) : List G := [(GL x1), (.r (.at (.app2 (.fn 194) (.ptr 52 0 0))))]
def f207_1_K (x1 : LI) (x2 : Int) : List (Nat × Blk) := [(52, (.var [.cell (.int .i64 x2)]))]
def f207_1_C (x1 : LI) (x2 : Int) (r : Int) : Prop := CallOK cx 207 (f207_1_A x1 x2) (f207_1_K x1 x2) [] (f207_1_v r) (f207_1_k x1 x2 r)

def f193_1_M : List Nat := []
def f193_1_v : Bool → G := fun y0 => (GB y0)
def f193_1_k0 : Bool → List (Nat × Blk) := fun y0 => []
def f193_1_k (x1 : LI) (x2 : Int) : Bool → List (Nat × Blk) := fun y0 => [(52, (.var [.cell (.int .i64 x2)]))]
def f193_1_A (x1 : LI) (x2 : Int) : List G := [(GL x1), (.r (.at (.app2 (.fn 194) (.ptr 52 0 0))))]
def f193_1_K (x1 : LI) (x2 : Int) : List (Nat × Blk) := [(52, (.var [.cell (.int .i64 x2)]))]
def f193_1_C (x1 : LI) (x2 : Int) (r : Bool) : Prop := CallOK cx 193 (f193_1_A x1 x2) (f193_1_K x1 x2) [] (f193_1_v r) (f193_1_k x1 x2 r)

def f174_M : List Nat := [52]
def f174_p5_H (x1 : LI) (x5 x6 : Int) : GS := ⟨[(0, (GL x1)), (3, (.r (.at (.ptr 52 0 0)))), (19, (GL x1)), (20, (.r (.at (.int .i64 (LN x1))))), (21, (GI x5))], [(52, (.var [.cell (.int .i64 x6)]))]⟩
def f174_p5_x : Int → GExit := fun y0 => (.exit 1)
def f174_p5_s (x1 : LI) : Int → GS := fun y0 => ⟨[(0, (GL x1)), (3, (.r (.at (.ptr 52 0 0))))], [(52, (.var [.cell (.int .i64 y0)]))]⟩
def f174_p5_P (x1 : LI) (x5 x6 : Int) (r : Int) : Prop := Lp cx f174_M 40 (part Tryz.f174 5) (f174_p5_H x1 x5 x6) (f174_p5_x r) (f174_p5_s x1 r)
def f174_v : Int → G := fun y0 => (GI y0)
def f174_k0 : Int → List (Nat × Blk) := fun y0 => []
def f174_k (x1 : LI) : Int → List (Nat × Blk) := fun y0 => []
def f174_A (x1 : LI) : List G := [(GL x1)]
def f174_K (x1 : LI) : List (Nat × Blk) := []
def f174_C (x1 : LI) (r : Int) : Prop := CallOK cx 174 (f174_A x1) (f174_K x1) [] (f174_v r) (f174_k x1 r)

def f196_M : List Nat := []
def f196_v : Int → G := fun y0 => (GI y0)
def f196_k0 : Int → List (Nat × Blk) := fun y0 => []
def f196_k (x1 : Int) : Int → List (Nat × Blk) := fun y0 => []
def f196_A (x1 : Int) : List G := [(.r (.at (.int .u8 x1)))]
def f196_K (x1 : Int) : List (Nat × Blk) := []
def f196_C (x1 : Int) (r : Int) : Prop := CallOK cx 196 (f196_A x1) (f196_K x1) [] (f196_v r) (f196_k x1 r)

def f176_M : List Nat := [53]
def f176_p1_H (x5 : Int) (x4 : LI) : GS := ⟨[(0, (.r (.at (.int .u8 x5)))), (3, (.r (.at (.sl 53 0 (List.length x4)))))], [(53, (.gr (.int .i64) 3 x4 true))]⟩
def f176_p1_x : (List Int) → GExit := fun y0 => (.exit 0)
def f176_p1_s : (List Int) → GS := fun y0 => ⟨[(3, (.r (.at (.sl 53 0 (List.length y0)))))], [(53, (.gr (.int .i64) 3 y0 true))]⟩
def f176_p1_P (x5 : Int) (x4 : LI) (r : (List Int)) : Prop := Lp cx f176_M 16 (part Tryz.f176 1) (f176_p1_H x5 x4) (f176_p1_x r) (f176_p1_s r)
def f176_v : (List Int) → G := fun y0 => (GL y0)
def f176_k0 : (List Int) → List (Nat × Blk) := fun y0 => []
def f176_k (x1 : Int) : (List Int) → List (Nat × Blk) := fun y0 => []
def f176_A (x1 : Int) : List G := [(.r (.at (.int .u8 x1)))]
def f176_K (x1 : Int) : List (Nat × Blk) := []
def f176_C (x1 : Int) (r : (List Int)) : Prop := CallOK cx 176 (f176_A x1) (f176_K x1) [] (f176_v r) (f176_k x1 r)

def f175_M : List Nat := []
def f175_p1_H (x1 x3 : LI) (x4 x5 : Int) : GS := ⟨[(0, (GL x1)), (6, (GI x4)), (18, (GL x3)), (19, (.r (.at (.int .i64 (LN x3))))), (20, (GI x5))], []⟩
def f175_p1_x : Int → GExit := fun y0 => (.exit 0)
def f175_p1_s (x1 x3 : LI) : Int → GS := fun y0 => ⟨[(6, (GI y0))], []⟩
def f175_p1_P (x1 x3 : LI) (x4 x5 : Int) (r : Int) : Prop := Lp cx f175_M 32 (part Tryz.f175 1) (f175_p1_H x1 x3 x4 x5) (f175_p1_x r) (f175_p1_s x1 x3 r)
def f175_v : Int → G := fun y0 => (GI y0)
def f175_k0 : Int → List (Nat × Blk) := fun y0 => []
def f175_k (x1 : LI) (x2 : Int) : Int → List (Nat × Blk) := fun y0 => []
def f175_A (x1 : LI) (x2 : Int) : List G := [(GL x1), (.r (.at (.int .u8 x2)))]
def f175_K (x1 : LI) (x2 : Int) : List (Nat × Blk) := []
def f175_C (x1 : LI) (x2 : Int) (r : Int) : Prop := CallOK cx 175 (f175_A x1 x2) (f175_K x1 x2) [] (f175_v r) (f175_k x1 x2 r)

def f60_1_M : List Nat := []
def f60_1_p1_H (x1 : LI) (x2 : Option (List Int)) (x3 : Int) : GS := ⟨[(0, (GL x1)), (1, (.r (.at (.olst (.int .i64) x2)))), (9, (GL x1)), (10, (.r (.at (.int .i64 (LN x1))))), (11, (GI x3))], []⟩
def f60_1_p1_x : f60_1_p1_R → GExit := fun
 | .c0 y0 => .ret
 | .c1 => (.exit 0)
def f60_1_p1_s (x1 : LI) (x2 : Option (List Int)) : f60_1_p1_R → GS := fun
 | .c0 y0 => ⟨[(4, (GI y0))], []⟩
 | .c1 => ⟨[(0, (GL x1)), (1, (.r (.at (.olst (.int .i64) x2))))], []⟩
def f60_1_p1_P (x1 : LI) (x2 : Option (List Int)) (x3 : Int) (r : f60_1_p1_R) : Prop := Lp cx f60_1_M 36 (part Tryz.f60 1) (f60_1_p1_H x1 x2 x3) (f60_1_p1_x r) (f60_1_p1_s x1 x2 r)
def f60_1_v : Int → G := fun y0 => (GI y0)
def f60_1_k0 : Int → List (Nat × Blk) := fun y0 => []
def f60_1_k (x1 : LI) (x2 : Option (List Int)) : Int → List (Nat × Blk) := fun y0 => []
def f60_1_A (x1 : LI) (x2 : Option (List Int)) : List G := [(GL x1), (.r (.at (.olst (.int .i64) x2)))]
def f60_1_K (x1 : LI) (x2 : Option (List Int)) : List (Nat × Blk) := []
def f60_1_C (x1 : LI) (x2 : Option (List Int)) (r : Int) : Prop := CallOK cx 60 (f60_1_A x1 x2) (f60_1_K x1 x2) [] (f60_1_v r) (f60_1_k x1 x2 r)

def f155_M : List Nat := []
def f155_p6_H (x1 : LI) (x3 : Option (List Int)) (x4 : Int) (x6 : LI) (x7 : Int) : GS := ⟨[(0, (GL x1)), (5, (.r (.at (.olst (.int .i64) x3)))), (6, (.r (.at (.int .u8 x4)))), (7, (GL x6)), (47, (.r (.at (.bool (decide (x7 < 0))))))], []⟩
def f155_p6_x : (Option (List Int)) → GExit := fun y0 => .normal
def f155_p6_s (x1 : LI) (x3 : Option (List Int)) (x4 : Int) (x6 : LI) (x7 : Int) : (Option (List Int)) → GS := fun y0 => ⟨[(0, (GL x1)), (5, (.r (.at (.olst (.int .i64) y0)))), (6, (.r (.at (.int .u8 x4))))], []⟩
def f155_p6_P (x1 : LI) (x3 : Option (List Int)) (x4 : Int) (x6 : LI) (x7 : Int) (r : (Option (List Int))) : Prop := Ex cx f155_M 52 (part Tryz.f155 6) (f155_p6_H x1 x3 x4 x6 x7) (f155_p6_x r) (f155_p6_s x1 x3 x4 x6 x7 r)
def f155_p2_H (x1 : LI) (x3 : Option (List Int)) (x4 : Int) : GS := ⟨[(0, (GL x1)), (5, (.r (.at (.olst (.int .i64) x3)))), (6, (.r (.at (.int .u8 x4))))], []⟩
def f155_p2_x : (Option (List Int)) → GExit := fun y0 => (.exit 0)
def f155_p2_s (x1 : LI) : (Option (List Int)) → GS := fun y0 => ⟨[(5, (.r (.at (.olst (.int .i64) y0))))], []⟩
def f155_p2_P (x1 : LI) (x3 : Option (List Int)) (x4 : Int) (r : (Option (List Int))) : Prop := Lp cx f155_M 52 (part Tryz.f155 2) (f155_p2_H x1 x3 x4) (f155_p2_x r) (f155_p2_s x1 r)
def f155_v : ((List Int) × Int) → G := fun (y0, y1) => (.tup [(.at (.lst (.int .i64) y0 false)), (.at (.int .i64 y1))])
def f155_k0 : ((List Int) × Int) → List (Nat × Blk) := fun (y0, y1) => []
def f155_k (x1 : LI) : ((List Int) × Int) → List (Nat × Blk) := fun (y0, y1) => []
def f155_A (x1 : LI) : List G := [(GL x1)]
def f155_K (x1 : LI) : List (Nat × Blk) := []
def f155_C (x1 : LI) (r : (List Int) × Int) : Prop := CallOK cx 155 (f155_A x1) (f155_K x1) [] (f155_v r) (f155_k x1 r)

def f127_M : List Nat := []
def f127_v : Bool → G := fun y0 => (GB y0)
def f127_k0 : Bool → List (Nat × Blk) := fun y0 => []
def f127_k : Bool → List (Nat × Blk) := fun y0 => []
def f127_A : List G := []
def f127_K : List (Nat × Blk) := []
def f127_C (r : Bool) : Prop := CallOK cx 127 (f127_A) (f127_K) [] (f127_v r) (f127_k r)

def f99_M : List Nat := []
def f99_v : Bool → G := fun y0 => (GB y0)
def f99_k0 : Bool → List (Nat × Blk) := fun y0 => []
def f99_k : Bool → List (Nat × Blk) := fun y0 => []
def f99_A : List G := []
def f99_K : List (Nat × Blk) := []
def f99_C (r : Bool) : Prop := CallOK cx 99 (f99_A) (f99_K) [] (f99_v r) (f99_k r)

def f63_M : List Nat := []
def f63_v : Bool → G := fun y0 => (GB y0)
def f63_k0 : Bool → List (Nat × Blk) := fun y0 => []
def f63_k : Bool → List (Nat × Blk) := fun y0 => []
def f63_A : List G := []
def f63_K : List (Nat × Blk) := []
def f63_C (r : Bool) : Prop := CallOK cx 63 (f63_A) (f63_K) [] (f63_v r) (f63_k r)

def f37_M : List Nat := []
def f37_v : Bool → G := fun y0 => (GB y0)
def f37_k0 : Bool → List (Nat × Blk) := fun y0 => []
def f37_k : Bool → List (Nat × Blk) := fun y0 => []
def f37_A : List G := []
def f37_K : List (Nat × Blk) := []
def f37_C (r : Bool) : Prop := CallOK cx 37 (f37_A) (f37_K) [] (f37_v r) (f37_k r)

def f15_M : List Nat := []
def f15_v : Bool → G := fun y0 => (GB y0)
def f15_k0 : Bool → List (Nat × Blk) := fun y0 => []
def f15_k : Bool → List (Nat × Blk) := fun y0 => []
def f15_A : List G := []
def f15_K : List (Nat × Blk) := []
def f15_C (r : Bool) : Prop := CallOK cx 15 (f15_A) (f15_K) [] (f15_v r) (f15_k r)

def f3_M : List Nat := [6, 7, 19]
def f3_p6_H (x1 : Int) (x4 : LI) (x7 : LI) (x3 : LI) (x6 x16 x17 : Int) (x15 : LL) : GS := ⟨[(5, (.r (.at (.int .i64 (w64 (1 + (Int.tmod (w64 (x1)) 4))))))), (7, (GL x4)), (10, (GL x7)), (11, (.r (.at (.ptr 6 0 0)))), (52, (.r (.at (.lst (.list (.int .i64)) (([x3, x4] : List (List Int)) : List (List Int)) true)))), (53, (.r (.at (.int .i64 ((List.length ([x3, x4] : List (List Int)) : Nat) : Int))))), (54, (GI x6)), (60, (GL x7)), (61, (.r (.at (.int .i64 (LN x7))))), (62, (GI x16))], [(6, (.var [.cell (.int .i64 x17), .cell (.sl 7 0 (List.length x15))])), (7, (.gr (.list (.int .i64)) 23 x15 true))]⟩
def f3_p6_x : f3_p6_R → GExit := fun
 | .c0 => .ret
 | .c1 y0 y1 => (.exit 2)
def f3_p6_s (x1 : Int) (x4 : LI) (x7 : LI) (x3 : LI) (x6 : Int) : f3_p6_R → GS := fun
 | .c0 => ⟨[(4, (.r (.at (.bool false))))], []⟩
 | .c1 y0 y1 => ⟨[(5, (.r (.at (.int .i64 (w64 (1 + (Int.tmod (w64 (x1)) 4))))))), (7, (GL x4)), (10, (GL x7)), (11, (.r (.at (.ptr 6 0 0)))), (52, (.r (.at (.lst (.list (.int .i64)) (([x3, x4] : List (List Int)) : List (List Int)) true)))), (53, (.r (.at (.int .i64 ((List.length ([x3, x4] : List (List Int)) : Nat) : Int))))), (54, (GI x6))], [(6, (.var [.cell (.int .i64 y0), .cell (.sl 7 0 (List.length y1))])), (7, (.gr (.list (.int .i64)) 23 y1 true))]⟩
def f3_p6_P (x1 : Int) (x4 : LI) (x7 : LI) (x3 : LI) (x6 x16 x17 : Int) (x15 : LL) (r : f3_p6_R) : Prop := Lp cx f3_M 206 (part Tryz.f3 6) (f3_p6_H x1 x4 x7 x3 x6 x16 x17 x15) (f3_p6_x r) (f3_p6_s x1 x4 x7 x3 x6 r)
def f3_r28_H (x1 : Int) (x4 : LI) (x7 : LI) (x22 x24 : LL) (x26 x28 : LI) (x30 : Int) (x3 : LI) (x6 x20 : Int) (x21 : LL) (x31 : LI) : GS := ⟨[(5, (.r (.at (.int .i64 (w64 (1 + (Int.tmod (w64 (x1)) 4))))))), (7, (GL x4)), (10, (GL x7)), (11, (.r (.at (.ptr 6 0 0)))), (14, (.r (.at (.lst (.list (.int .i64)) x22 false)))), (16, (.r (.at (.lst (.list (.int .i64)) x24 false)))), (18, (GL x26)), (20, (GL x28)), (22, (GI x30)), (24, (.r (.at (.app2 (.fn 11) (.ptr 19 0 0))))), (52, (.r (.at (.lst (.list (.int .i64)) (([x3, x4] : List (List Int)) : List (List Int)) true)))), (53, (.r (.at (.int .i64 ((List.length ([x3, x4] : List (List Int)) : Nat) : Int))))), (54, (GI x6)), (127, (.r (.at (.int .i64 (iShl .i64 1 (w64 (1 + (Int.tmod (w64 (x1)) 4)))))))), (128, (GI x30))], [(6, (.var [.cell (.int .i64 x20), .cell (.lst (.list (.int .i64)) ((List.drop 0 (List.take (0 + (List.length x21)) x21)) : List (List Int)) false)])), (19, (.var [.cell (.lst (.int .i64) x31 false)]))]⟩
def f3_r28_x : Bool → GExit := fun y0 => .normal
def f3_r28_s (x1 : Int) (x4 : LI) (x7 : LI) (x22 x24 : LL) (x26 x28 : LI) (x30 : Int) (x3 : LI) (x6 x20 : Int) (x21 : LL) (x31 : LI) : Bool → GS := fun y0 => ⟨[(5, (.r (.at (.int .i64 (w64 (1 + (Int.tmod (w64 (x1)) 4))))))), (7, (GL x4)), (10, (GL x7)), (11, (.r (.at (.ptr 6 0 0)))), (14, (.r (.at (.lst (.list (.int .i64)) x22 false)))), (16, (.r (.at (.lst (.list (.int .i64)) x24 false)))), (18, (GL x26)), (20, (GL x28)), (22, (GI x30)), (25, (GB y0)), (52, (.r (.at (.lst (.list (.int .i64)) (([x3, x4] : List (List Int)) : List (List Int)) true)))), (53, (.r (.at (.int .i64 ((List.length ([x3, x4] : List (List Int)) : Nat) : Int))))), (54, (GI x6)), (127, (.r (.at (.int .i64 (iShl .i64 1 (w64 (1 + (Int.tmod (w64 (x1)) 4)))))))), (128, (GI x30))], [(6, (.var [.cell (.int .i64 x20), .cell (.lst (.list (.int .i64)) ((List.drop 0 (List.take (0 + (List.length x21)) x21)) : List (List Int)) false)]))]⟩
def f3_r28_P (x1 : Int) (x4 : LI) (x7 : LI) (x22 x24 : LL) (x26 x28 : LI) (x30 : Int) (x3 : LI) (x6 x20 : Int) (x21 : LL) (x31 : LI) (r : Bool) : Prop := Ex cx f3_M 206 (rgnF 28 Tryz.f3) (f3_r28_H x1 x4 x7 x22 x24 x26 x28 x30 x3 x6 x20 x21 x31) (f3_r28_x r) (f3_r28_s x1 x4 x7 x22 x24 x26 x28 x30 x3 x6 x20 x21 x31 r)
def f3_p19_H (x1 : Int) (x4 : LI) (x7 : LI) (x22 x24 : LL) (x26 x28 : LI) (x30 : Int) (x35 : Bool) (x36 : Int) (x3 : LI) (x6 x37 : Int) (x38 x20 : Int) (x21 : LL) : GS := ⟨[(5, (.r (.at (.int .i64 (w64 (1 + (Int.tmod (w64 (x1)) 4))))))), (7, (GL x4)), (10, (GL x7)), (11, (.r (.at (.ptr 6 0 0)))), (14, (.r (.at (.lst (.list (.int .i64)) x22 false)))), (16, (.r (.at (.lst (.list (.int .i64)) x24 false)))), (18, (GL x26)), (20, (GL x28)), (22, (GI x30)), (25, (GB x35)), (26, (GI x36)), (52, (.r (.at (.lst (.list (.int .i64)) (([x3, x4] : List (List Int)) : List (List Int)) true)))), (53, (.r (.at (.int .i64 ((List.length ([x3, x4] : List (List Int)) : Nat) : Int))))), (54, (GI x6)), (127, (.r (.at (.int .i64 (iShl .i64 1 (w64 (1 + (Int.tmod (w64 (x1)) 4)))))))), (128, (GI x30)), (149, (GL x7)), (150, (.r (.at (.int .i64 (LN x7))))), (151, (GI x37)), (162, (.r (.at (.bool ((iAnd .i64 (iXor .i64 x30 x38) (w64 ((iXor .i64 x30 x38) - 1))) == 0)))))], [(6, (.var [.cell (.int .i64 x20), .cell (.lst (.list (.int .i64)) ((List.drop 0 (List.take (0 + (List.length x21)) x21)) : List (List Int)) false)]))]⟩
def f3_p19_x : Int → GExit := fun y0 => .normal
def f3_p19_s (x1 : Int) (x4 : LI) (x7 : LI) (x22 x24 : LL) (x26 x28 : LI) (x30 : Int) (x35 : Bool) (x36 : Int) (x3 : LI) (x6 x37 : Int) (x38 x20 : Int) (x21 : LL) : Int → GS := fun y0 => ⟨[(5, (.r (.at (.int .i64 (w64 (1 + (Int.tmod (w64 (x1)) 4))))))), (7, (GL x4)), (10, (GL x7)), (11, (.r (.at (.ptr 6 0 0)))), (14, (.r (.at (.lst (.list (.int .i64)) x22 false)))), (16, (.r (.at (.lst (.list (.int .i64)) x24 false)))), (18, (GL x26)), (20, (GL x28)), (22, (GI x30)), (25, (GB x35)), (26, (GI y0)), (52, (.r (.at (.lst (.list (.int .i64)) (([x3, x4] : List (List Int)) : List (List Int)) true)))), (53, (.r (.at (.int .i64 ((List.length ([x3, x4] : List (List Int)) : Nat) : Int))))), (54, (GI x6)), (127, (.r (.at (.int .i64 (iShl .i64 1 (w64 (1 + (Int.tmod (w64 (x1)) 4)))))))), (128, (GI x30)), (149, (GL x7)), (150, (.r (.at (.int .i64 (LN x7))))), (151, (GI x37))], [(6, (.var [.cell (.int .i64 x20), .cell (.lst (.list (.int .i64)) ((List.drop 0 (List.take (0 + (List.length x21)) x21)) : List (List Int)) false)]))]⟩
def f3_p19_P (x1 : Int) (x4 : LI) (x7 : LI) (x22 x24 : LL) (x26 x28 : LI) (x30 : Int) (x35 : Bool) (x36 : Int) (x3 : LI) (x6 x37 : Int) (x38 x20 : Int) (x21 : LL) (r : Int) : Prop := Ex cx f3_M 206 (part Tryz.f3 19) (f3_p19_H x1 x4 x7 x22 x24 x26 x28 x30 x35 x36 x3 x6 x37 x38 x20 x21) (f3_p19_x r) (f3_p19_s x1 x4 x7 x22 x24 x26 x28 x30 x35 x36 x3 x6 x37 x38 x20 x21 r)
def f3_p16_H (x1 : Int) (x4 : LI) (x7 : LI) (x22 x24 : LL) (x26 x28 : LI) (x30 : Int) (x35 : Bool) (x3 : LI) (x6 x20 : Int) (x21 : LL) (x36 x37 : Int) : GS := ⟨[(5, (.r (.at (.int .i64 (w64 (1 + (Int.tmod (w64 (x1)) 4))))))), (7, (GL x4)), (10, (GL x7)), (11, (.r (.at (.ptr 6 0 0)))), (14, (.r (.at (.lst (.list (.int .i64)) x22 false)))), (16, (.r (.at (.lst (.list (.int .i64)) x24 false)))), (18, (GL x26)), (20, (GL x28)), (22, (GI x30)), (25, (GB x35)), (26, (GI x36)), (52, (.r (.at (.lst (.list (.int .i64)) (([x3, x4] : List (List Int)) : List (List Int)) true)))), (53, (.r (.at (.int .i64 ((List.length ([x3, x4] : List (List Int)) : Nat) : Int))))), (54, (GI x6)), (127, (.r (.at (.int .i64 (iShl .i64 1 (w64 (1 + (Int.tmod (w64 (x1)) 4)))))))), (128, (GI x30)), (149, (GL x7)), (150, (.r (.at (.int .i64 (LN x7))))), (151, (GI x37))], [(6, (.var [.cell (.int .i64 x20), .cell (.lst (.list (.int .i64)) ((List.drop 0 (List.take (0 + (List.length x21)) x21)) : List (List Int)) false)]))]⟩
def f3_p16_x : Int → GExit := fun y0 => (.exit 6)
def f3_p16_s (x1 : Int) (x4 : LI) (x7 : LI) (x22 x24 : LL) (x26 x28 : LI) (x30 : Int) (x35 : Bool) (x3 : LI) (x6 x20 : Int) (x21 : LL) : Int → GS := fun y0 => ⟨[(5, (.r (.at (.int .i64 (w64 (1 + (Int.tmod (w64 (x1)) 4))))))), (7, (GL x4)), (10, (GL x7)), (11, (.r (.at (.ptr 6 0 0)))), (14, (.r (.at (.lst (.list (.int .i64)) x22 false)))), (16, (.r (.at (.lst (.list (.int .i64)) x24 false)))), (18, (GL x26)), (20, (GL x28)), (22, (GI x30)), (25, (GB x35)), (26, (GI y0)), (52, (.r (.at (.lst (.list (.int .i64)) (([x3, x4] : List (List Int)) : List (List Int)) true)))), (53, (.r (.at (.int .i64 ((List.length ([x3, x4] : List (List Int)) : Nat) : Int))))), (54, (GI x6)), (127, (.r (.at (.int .i64 (iShl .i64 1 (w64 (1 + (Int.tmod (w64 (x1)) 4)))))))), (128, (GI x30))], [(6, (.var [.cell (.int .i64 x20), .cell (.lst (.list (.int .i64)) ((List.drop 0 (List.take (0 + (List.length x21)) x21)) : List (List Int)) false)]))]⟩
def f3_p16_P (x1 : Int) (x4 : LI) (x7 : LI) (x22 x24 : LL) (x26 x28 : LI) (x30 : Int) (x35 : Bool) (x3 : LI) (x6 x20 : Int) (x21 : LL) (x36 x37 : Int) (r : Int) : Prop := Lp cx f3_M 206 (part Tryz.f3 16) (f3_p16_H x1 x4 x7 x22 x24 x26 x28 x30 x35 x3 x6 x20 x21 x36 x37) (f3_p16_x r) (f3_p16_s x1 x4 x7 x22 x24 x26 x28 x30 x35 x3 x6 x20 x21 r)
def f3_p12_H (x1 : Int) (x4 : LI) (x7 : LI) (x22 x24 : LL) (x26 x28 x3 : LI) (x6 x20 : Int) (x21 : LL) (x30 : Int) : GS := ⟨[(5, (.r (.at (.int .i64 (w64 (1 + (Int.tmod (w64 (x1)) 4))))))), (7, (GL x4)), (10, (GL x7)), (11, (.r (.at (.ptr 6 0 0)))), (14, (.r (.at (.lst (.list (.int .i64)) x22 false)))), (16, (.r (.at (.lst (.list (.int .i64)) x24 false)))), (18, (GL x26)), (20, (GL x28)), (52, (.r (.at (.lst (.list (.int .i64)) (([x3, x4] : List (List Int)) : List (List Int)) true)))), (53, (.r (.at (.int .i64 ((List.length ([x3, x4] : List (List Int)) : Nat) : Int))))), (54, (GI x6)), (127, (.r (.at (.int .i64 (iShl .i64 1 (w64 (1 + (Int.tmod (w64 (x1)) 4)))))))), (128, (GI x30))], [(6, (.var [.cell (.int .i64 x20), .cell (.lst (.list (.int .i64)) ((List.drop 0 (List.take (0 + (List.length x21)) x21)) : List (List Int)) false)]))]⟩
def f3_p12_x : f3_p12_R → GExit := fun
 | .c0 => .ret
 | .c1 => (.exit 4)
def f3_p12_s (x1 : Int) (x4 : LI) (x7 : LI) (x22 x24 : LL) (x26 x28 x3 : LI) (x6 x20 : Int) (x21 : LL) : f3_p12_R → GS := fun
 | .c0 => ⟨[(4, (.r (.at (.bool false))))], []⟩
 | .c1 => ⟨[(5, (.r (.at (.int .i64 (w64 (1 + (Int.tmod (w64 (x1)) 4))))))), (7, (GL x4)), (52, (.r (.at (.lst (.list (.int .i64)) (([x3, x4] : List (List Int)) : List (List Int)) true)))), (53, (.r (.at (.int .i64 ((List.length ([x3, x4] : List (List Int)) : Nat) : Int))))), (54, (GI x6))], []⟩
def f3_p12_P (x1 : Int) (x4 : LI) (x7 : LI) (x22 x24 : LL) (x26 x28 x3 : LI) (x6 x20 : Int) (x21 : LL) (x30 : Int) (r : f3_p12_R) : Prop := Lp cx f3_M 206 (part Tryz.f3 12) (f3_p12_H x1 x4 x7 x22 x24 x26 x28 x3 x6 x20 x21 x30) (f3_p12_x r) (f3_p12_s x1 x4 x7 x22 x24 x26 x28 x3 x6 x20 x21 r)
def f3_p2_H (x1 : Int) (x4 x3 : LI) (x6 : Int) : GS := ⟨[(5, (.r (.at (.int .i64 (w64 (1 + (Int.tmod (w64 (x1)) 4))))))), (7, (GL x4)), (52, (.r (.at (.lst (.list (.int .i64)) (([x3, x4] : List (List Int)) : List (List Int)) true)))), (53, (.r (.at (.int .i64 ((List.length ([x3, x4] : List (List Int)) : Nat) : Int))))), (54, (GI x6))], []⟩
def f3_p2_x : f3_p2_R → GExit := fun
 | .c0 => .ret
 | .c1 => (.exit 0)
def f3_p2_s (x1 : Int) (x4 x3 : LI) : f3_p2_R → GS := fun
 | .c0 => ⟨[(4, (.r (.at (.bool false))))], []⟩
 | .c1 => ⟨[(5, (.r (.at (.int .i64 (w64 (1 + (Int.tmod (w64 (x1)) 4))))))), (7, (GL x4))], []⟩
def f3_p2_P (x1 : Int) (x4 x3 : LI) (x6 : Int) (r : f3_p2_R) : Prop := Lp cx f3_M 206 (part Tryz.f3 2) (f3_p2_H x1 x4 x3 x6) (f3_p2_x r) (f3_p2_s x1 x4 x3 r)
def f3_v : Bool → G := fun y0 => (GB y0)
def f3_k0 : Bool → List (Nat × Blk) := fun y0 => []
def f3_k (x1 x2 : Int) : Bool → List (Nat × Blk) := fun y0 => []
def f3_A (x1 x2 : Int) : List G := [(.r (.at (.int .u8 x1))), (.r (.at (.int .u16 x2)))]
def f3_K (x1 x2 : Int) : List (Nat × Blk) := []
def f3_C (x1 x2 : Int) (r : Bool) : Prop := CallOK cx 3 (f3_A x1 x2) (f3_K x1 x2) [] (f3_v r) (f3_k x1 x2 r)

end
end Go.Gh.Tz
