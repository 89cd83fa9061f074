/- Sale8D0: printed by wip/tool/gx.py -/
import Derived.Test.YtdbaljbhnpchjaaSaleA
import Derived.Test.YtdbaljbhnpchjaaGiC
import Derived.Test.YtdbaljbhnpchjaaSale8N0
namespace Go.Gh.Sale
set_option linter.unusedVariables false
set_option linter.unusedSimpArgs false
abbrev LL : Type := List (List Int)
abbrev LI : Type := List Int
abbrev LN {α : Type} (l : List α) : Int := ((List.length l : Nat) : Int)
theorem eF {b : Bool} (h : ¬ b = true) : b = false := Bool.eq_false_iff.2 h
theorem sI {α : Type} {a b : α} (h : some a = some b) : a = b := Option.some.inj h
abbrev pMa : Go.Gh.Ty := .pair (.int .i64) (.pair (.int .i64) (.pair (.int .u8) .unit))
abbrev pMb : Go.Gh.Ty := .pair (.int .i64) (.pair (.int .i64) .unit)
noncomputable section
open Go.Proofs
abbrev oL (l : List Nat) : En := .co (.live l)
abbrev oK (l : List Nat) : En := .co (.keep l)
abbrev oV (n : Int) : En := .v (.ipt (.int .i64) n)
abbrev oP (e : GExit) (s : GS) : En := .lp e s.env s.hp

def f45_M : List Nat := []
def f45_v : (List Int) → G := fun y0 => (GL y0)
def f45_k0 : (List Int) → List (Nat × Blk) := fun y0 => []
def f45_k (x1 : LI) : (List Int) → List (Nat × Blk) := fun y0 => []
def f45_A (x1 : LI) : List G := [(GL x1)]
def f45_K (x1 : LI) : List (Nat × Blk) := []
def f45_C (x1 : LI) (r : (List Int)) : Prop := CallOK cx 45 (f45_A x1) (f45_K x1) [] (f45_v r) (f45_k x1 r)

def f46_M : List Nat := []
def f46_v : (List (List Int)) → G := fun y0 => (.r (.at (.lst (.list (.int .i64)) y0 false)))
def f46_k0 : (List (List Int)) → List (Nat × Blk) := fun y0 => []
def f46_k (x1 : LL) : (List (List Int)) → List (Nat × Blk) := fun y0 => []
def f46_A (x1 : LL) : List G := [(.r (.at (.lst (.list (.int .i64)) x1 false)))]
def f46_K (x1 : LL) : List (Nat × Blk) := []
def f46_C (x1 : LL) (r : (List (List Int))) : Prop := CallOK cx 46 (f46_A x1) (f46_K x1) [] (f46_v r) (f46_k x1 r)

def f44_M : List Nat := []
def f44_v : (List (List Int)) → G := fun y0 => (.r (.at (.lst (.list (.int .i64)) y0 false)))
def f44_k0 : (List (List Int)) → List (Nat × Blk) := fun y0 => []
def f44_k : (List (List Int)) → List (Nat × Blk) := fun y0 => []
def f44_A : List G := []
def f44_K : List (Nat × Blk) := []
def f44_C (r : (List (List Int))) : Prop := CallOK cx 44 (f44_A) (f44_K) [] (f44_v r) (f44_k r)

def f70_M : List Nat := []
def f70_v : Bool → G := fun y0 => (GB y0)
def f70_k0 : Bool → List (Nat × Blk) := fun y0 => []
def f70_k (x1 x2 x3 : Int) : Bool → List (Nat × Blk) := fun y0 => []
def f70_A (x1 x2 x3 : Int) : List G := [(GI x1), (GI x2), (GI x3)]
def f70_K (x1 x2 x3 : Int) : List (Nat × Blk) := []
def f70_C (x1 x2 x3 : Int) (r : Bool) : Prop := CallOK cx 70 (f70_A x1 x2 x3) (f70_K x1 x2 x3) [] (f70_v r) (f70_k x1 x2 x3 r)

def f102_M : List Nat := []
def f102_v : Bool → G := fun y0 => (GB y0)
def f102_k0 : Bool → List (Nat × Blk) := fun y0 => []
def f102_k (x1 : Int) : Bool → List (Nat × Blk) := fun y0 => []
def f102_A (x1 : Int) : List G := [(GI x1)]
def f102_K (x1 : Int) : List (Nat × Blk) := []
def f102_C (x1 : Int) (r : Bool) : Prop := CallOK cx 102 (f102_A x1) (f102_K x1) [] (f102_v r) (f102_k x1 r)

def f107_M : List Nat := []
def f107_p1_H (x1 : LI) (x2 : Int) : GS := ⟨[(0, (GL x1)), (1, (.r (.at (.fn 102)))), (7, (.r (.at (.int .i64 (LN x1))))), (8, (GI x2))], []⟩
def f107_p1_x : f107_p1_R → GExit := fun
 | .c0 y0 => .ret
 | .c1 => (.exit 0)
def f107_p1_s (x1 : LI) : f107_p1_R → GS := fun
 | .c0 y0 => ⟨[(4, (GI y0))], []⟩
 | .c1 => ⟨[], []⟩
def f107_p1_P (x1 : LI) (x2 : Int) (r : f107_p1_R) : Prop := Lp cx f107_M 19 (part Try.f107 1) (f107_p1_H x1 x2) (f107_p1_x r) (f107_p1_s x1 r)
def f107_v : Int → G := fun y0 => (GI y0)
def f107_k0 : Int → List (Nat × Blk) := fun y0 => []
def f107_k (x1 : LI) : Int → List (Nat × Blk) := fun y0 => []
def f107_A (x1 : LI) : List G := [(GL x1), (.r (.at (.fn 102)))]
def f107_K (x1 : LI) : List (Nat × Blk) := []
def f107_C (x1 : LI) (r : Int) : Prop := CallOK cx 107 (f107_A x1) (f107_K x1) [] (f107_v r) (f107_k x1 r)

def f101_M : List Nat := []
def f101_v : Bool → G := fun y0 => (GB y0)
def f101_k0 : Bool → List (Nat × Blk) := fun y0 => []
def f101_k (x1 : LI) : Bool → List (Nat × Blk) := fun y0 => []
def f101_A (x1 : LI) : List G := [(GL x1), (.r (.at (.fn 102)))]
def f101_K (x1 : LI) : List (Nat × Blk) := []
def f101_C (x1 : LI) (r : Bool) : Prop := CallOK cx 101 (f101_A x1) (f101_K x1) [] (f101_v r) (f101_k x1 r)

def f76_M : List Nat := []
def f76_v : Int → G := fun y0 => (GI y0)
def f76_k0 : Int → List (Nat × Blk) := fun y0 => []
def f76_k (x1 : LI) (x2 : Int) : Int → List (Nat × Blk) := fun y0 => []
def f76_A (x1 : LI) (x2 : Int) : List G := [(GL x1), (GI x2)]
def f76_K (x1 : LI) (x2 : Int) : List (Nat × Blk) := []
def f76_C (x1 : LI) (x2 : Int) (r : Int) : Prop := CallOK cx 76 (f76_A x1 x2) (f76_K x1 x2) [] (f76_v r) (f76_k x1 x2 r)

def f24_M : List Nat := []
def f24_p4_H (x1 : LL) (x3 : Int) : GS := ⟨[(0, (.r (.at (.lst (.list (.int .i64)) x1 false)))), (21, (.r (.at (.lst (.list (.int .i64)) x1 false)))), (22, (.r (.at (.int .i64 (LN x1))))), (23, (GI x3))], []⟩
def f24_p4_x : f24_p4_R → GExit := fun
 | .c0 y0 => .ret
 | .c1 => (.exit 1)
def f24_p4_s (x1 : LL) : f24_p4_R → GS := fun
 | .c0 y0 => ⟨[(2, (GI y0))], []⟩
 | .c1 => ⟨[], []⟩
def f24_p4_P (x1 : LL) (x3 : Int) (r : f24_p4_R) : Prop := Lp cx f24_M 37 (part Try.f24 4) (f24_p4_H x1 x3) (f24_p4_x r) (f24_p4_s x1 r)
def f24_v : Int → G := fun y0 => (GI y0)
def f24_k0 : Int → List (Nat × Blk) := fun y0 => []
def f24_k (x1 : LL) : Int → List (Nat × Blk) := fun y0 => []
def f24_A (x1 : LL) : List G := [(.r (.at (.lst (.list (.int .i64)) x1 false)))]
def f24_K (x1 : LL) : List (Nat × Blk) := []
def f24_C (x1 : LL) (r : Int) : Prop := CallOK cx 24 (f24_A x1) (f24_K x1) [] (f24_v r) (f24_k x1 r)

def f65_M : List Nat := [1, 2]
def f65_v : f65_R → G := fun
 | .c0 y0 => (.tup [(.at .nilp), (.at (.int .i64 y0))])
 | .c1 y0 y1 y2 y3 => (.tup [(.at (.ptr 2 0 0)), (.at (.int .i64 y0))])
def f65_k0 : f65_R → List (Nat × Blk) := fun
 | .c0 y0 => []
 | .c1 y0 y1 y2 y3 => [(1, (.mpb pMa pMb y1)), (2, (.var [.cell (.lst (.list (.int .i64)) y2 false), .cell (.int .i64 y3), .cell (.mp 1)]))]
def f65_k (x1 : LL) : f65_R → List (Nat × Blk) := fun
 | .c0 y0 => []
 | .c1 y0 y1 y2 y3 => [(1, (.mpb pMa pMb y1)), (2, (.var [.cell (.lst (.list (.int .i64)) y2 false), .cell (.int .i64 y3), .cell (.mp 1)]))]
def f65_A (x1 : LL) : List G := [(.r (.at (.lst (.list (.int .i64)) x1 false)))]
def f65_K (x1 : LL) : List (Nat × Blk) := []
def f65_C (x1 : LL) (r : f65_R) : Prop := CallOK cx 65 (f65_A x1) (f65_K x1) [] (f65_v r) (f65_k x1 r)

def f69_M : List Nat := []
def f69_v : Int → G := fun y0 => (.r (.at (.int .u8 y0)))
def f69_k0 : Int → List (Nat × Blk) := fun y0 => []
def f69_k (x1 : Mm) (x2 : LL) (x3 : Int) : Int → List (Nat × Blk) := fun y0 => [(1, (.mpb pMa pMb x1)), (2, (.var [.cell (.lst (.list (.int .i64)) x2 false), .cell (.int .i64 x3), .cell (.mp 1)]))]
def f69_A (x1 : Mm) (x2 : LL) (x3 : Int) : List G := [(.r (.at (.ptr 2 0 0)))]
def f69_K (x1 : Mm) (x2 : LL) (x3 : Int) : List (Nat × Blk) := [(1, (.mpb pMa pMb x1)), (2, (.var [.cell (.lst (.list (.int .i64)) x2 false), .cell (.int .i64 x3), .cell (.mp 1)]))]
def f69_C (x1 : Mm) (x2 : LL) (x3 : Int) (r : Int) : Prop := CallOK cx 69 (f69_A x1 x2 x3) (f69_K x1 x2 x3) [] (f69_v r) (f69_k x1 x2 x3 r)

def f71_M : List Nat := []
def f71_v : (Int × Bool) → G := fun (y0, y1) => (.tup [(.at (.int .u8 y0)), (.at (.bool y1))])
def f71_k0 : (Int × Bool) → List (Nat × Blk) := fun (y0, y1) => []
def f71_k (x1 x2 : Int) : (Int × Bool) → List (Nat × Blk) := fun (y0, y1) => []
def f71_A (x1 x2 : Int) : List G := [(.r (.at (.int .u8 x1))), (GI x2)]
def f71_K (x1 x2 : Int) : List (Nat × Blk) := []
def f71_C (x1 x2 : Int) (r : Int × Bool) : Prop := CallOK cx 71 (f71_A x1 x2) (f71_K x1 x2) [] (f71_v r) (f71_k x1 x2 r)

def f72_M : List Nat := []
def f72_v : Int → G := fun y0 => (GI y0)
def f72_k0 : Int → List (Nat × Blk) := fun y0 => []
def f72_k (x1 x2 : Int) (x3 : Mm) (x4 : LL) (x5 : Int) : Int → List (Nat × Blk) := fun y0 => [(1, (.mpb pMa pMb x3)), (2, (.var [.cell (.lst (.list (.int .i64)) x4 false), .cell (.int .i64 x5), .cell (.mp 1)]))]
def f72_A (x1 x2 : Int) (x3 : Mm) (x4 : LL) (x5 : Int) : List G := [(.r (.at (.ptr 2 0 0))), (GI x1), (GI x2)]
def f72_K (x1 x2 : Int) (x3 : Mm) (x4 : LL) (x5 : Int) : List (Nat × Blk) := [(1, (.mpb pMa pMb x3)), (2, (.var [.cell (.lst (.list (.int .i64)) x4 false), .cell (.int .i64 x5), .cell (.mp 1)]))]
def f72_C (x1 x2 : Int) (x3 : Mm) (x4 : LL) (x5 : Int) (r : Int) : Prop := CallOK cx 72 (f72_A x1 x2 x3 x4 x5) (f72_K x1 x2 x3 x4 x5) [] (f72_v r) (f72_k x1 x2 x3 x4 x5 r)

def f68_M : List Nat := [3, 4, 5, 6, 7]
def f68_p9_1_H (x17 x23 : Int) (x26 x19 : Int) (x25 : Mm) (x5 : LL) (x6 x1 : Int) (x2 x3 : Int) (x20 x24 : Int) : GS := ⟨[(0, (.r (.at (.ptr 2 0 0)))), (3, (.r (.at (.ptr 3 0 0)))), (4, (.r (.at (.ptr 4 0 0)))), (7, (.r (.at (.ptr 6 0 0)))), (8, (GI x17)), (11, (.r (.at (.ptr 7 0 0)))), (86, (.r (.at (.bool ((w64 (x23 + x26)) == x19)))))], [(1, (.mpb pMa pMb x25)), (2, (.var [.cell (.lst (.list (.int .i64)) x5 false), .cell (.int .i64 x6), .cell (.mp 1)])), (3, (.var [.cell (.int .i64 x1), .cell (.int .i64 x2), .cell (.int .u8 x3)])), (4, (.var [.cell (.int .i64 0), .cell (.int .i64 0)])), (6, (.var [.cell (.int .i64 x19), .cell (.int .i64 x20)])), (7, (.var [.cell (.int .i64 (w64 (x23 + x26))), .cell (.int .i64 x24)]))]⟩
def f68_p9_1_x : Int → GExit := fun y0 => .normal
def f68_p9_1_s (x17 x23 : Int) (x26 x19 : Int) (x25 : Mm) (x5 : LL) (x6 x1 : Int) (x2 x3 : Int) (x20 x24 : Int) : Int → GS := fun y0 => ⟨[(0, (.r (.at (.ptr 2 0 0)))), (3, (.r (.at (.ptr 3 0 0)))), (4, (.r (.at (.ptr 4 0 0)))), (7, (.r (.at (.ptr 6 0 0)))), (8, (GI x17))], [(1, (.mpb pMa pMb x25)), (2, (.var [.cell (.lst (.list (.int .i64)) x5 false), .cell (.int .i64 x6), .cell (.mp 1)])), (3, (.var [.cell (.int .i64 x1), .cell (.int .i64 x2), .cell (.int .u8 x3)])), (4, (.var [.cell (.int .i64 0), .cell (.int .i64 0)])), (6, (.var [.cell (.int .i64 x19), .cell (.int .i64 y0)]))]⟩
def f68_p9_1_P (x17 x23 : Int) (x26 x19 : Int) (x25 : Mm) (x5 : LL) (x6 x1 : Int) (x2 x3 : Int) (x20 x24 : Int) (r : Int) : Prop := Ex cx f68_M 105 (part Try.f68 9) (f68_p9_1_H x17 x23 x26 x19 x25 x5 x6 x1 x2 x3 x20 x24) (f68_p9_1_x r) (f68_p9_1_s x17 x23 x26 x19 x25 x5 x6 x1 x2 x3 x20 x24 r)
def f68_p8_1_H (x17 x23 : Int) (x26 x19 : Int) (x25 : Mm) (x5 : LL) (x6 x1 : Int) (x2 x3 : Int) (x20 x24 : Int) : GS := ⟨[(0, (.r (.at (.ptr 2 0 0)))), (3, (.r (.at (.ptr 3 0 0)))), (4, (.r (.at (.ptr 4 0 0)))), (7, (.r (.at (.ptr 6 0 0)))), (8, (GI x17)), (11, (.r (.at (.ptr 7 0 0)))), (79, (.r (.at (.bool (decide ((w64 (x23 + x26)) > x19))))))], [(1, (.mpb pMa pMb x25)), (2, (.var [.cell (.lst (.list (.int .i64)) x5 false), .cell (.int .i64 x6), .cell (.mp 1)])), (3, (.var [.cell (.int .i64 x1), .cell (.int .i64 x2), .cell (.int .u8 x3)])), (4, (.var [.cell (.int .i64 0), .cell (.int .i64 0)])), (6, (.var [.cell (.int .i64 x19), .cell (.int .i64 x20)])), (7, (.var [.cell (.int .i64 (w64 (x23 + x26))), .cell (.int .i64 x24)]))]⟩
def f68_p8_1_x : (Int × Int) → GExit := fun (y0, y1) => .normal
def f68_p8_1_s (x17 x23 : Int) (x26 x19 : Int) (x25 : Mm) (x5 : LL) (x6 x1 : Int) (x2 x3 : Int) (x20 x24 : Int) : (Int × Int) → GS := fun (y0, y1) => ⟨[(0, (.r (.at (.ptr 2 0 0)))), (3, (.r (.at (.ptr 3 0 0)))), (4, (.r (.at (.ptr 4 0 0)))), (7, (.r (.at (.ptr 6 0 0)))), (8, (GI x17))], [(1, (.mpb pMa pMb x25)), (2, (.var [.cell (.lst (.list (.int .i64)) x5 false), .cell (.int .i64 x6), .cell (.mp 1)])), (3, (.var [.cell (.int .i64 x1), .cell (.int .i64 x2), .cell (.int .u8 x3)])), (4, (.var [.cell (.int .i64 0), .cell (.int .i64 0)])), (6, (.var [.cell (.int .i64 y0), .cell (.int .i64 y1)]))]⟩
def f68_p8_1_P (x17 x23 : Int) (x26 x19 : Int) (x25 : Mm) (x5 : LL) (x6 x1 : Int) (x2 x3 : Int) (x20 x24 : Int) (r : Int × Int) : Prop := Ex cx f68_M 105 (part Try.f68 8) (f68_p8_1_H x17 x23 x26 x19 x25 x5 x6 x1 x2 x3 x20 x24) (f68_p8_1_x r) (f68_p8_1_s x17 x23 x26 x19 x25 x5 x6 x1 x2 x3 x20 x24 r)
def f68_p9_2_H (x17 x30 : Int) (x33 x19 : Int) (x32 : Mm) (x5 : LL) (x6 x1 : Int) (x2 x3 : Int) (x20 x31 : Int) : GS := ⟨[(0, (.r (.at (.ptr 2 0 0)))), (3, (.r (.at (.ptr 3 0 0)))), (4, (.r (.at (.ptr 4 0 0)))), (7, (.r (.at (.ptr 6 0 0)))), (8, (GI x17)), (11, (.r (.at (.ptr 7 0 0)))), (86, (.r (.at (.bool ((w64 (x30 + x33)) == x19)))))], [(1, (.mpb pMa pMb x32)), (2, (.var [.cell (.lst (.list (.int .i64)) x5 false), .cell (.int .i64 x6), .cell (.mp 1)])), (3, (.var [.cell (.int .i64 x1), .cell (.int .i64 x2), .cell (.int .u8 x3)])), (4, (.var [.cell (.int .i64 0), .cell (.int .i64 0)])), (6, (.var [.cell (.int .i64 x19), .cell (.int .i64 x20)])), (7, (.var [.cell (.int .i64 (w64 (x30 + x33))), .cell (.int .i64 x31)]))]⟩
def f68_p9_2_x : Int → GExit := fun y0 => .normal
def f68_p9_2_s (x17 x30 : Int) (x33 x19 : Int) (x32 : Mm) (x5 : LL) (x6 x1 : Int) (x2 x3 : Int) (x20 x31 : Int) : Int → GS := fun y0 => ⟨[(0, (.r (.at (.ptr 2 0 0)))), (3, (.r (.at (.ptr 3 0 0)))), (4, (.r (.at (.ptr 4 0 0)))), (7, (.r (.at (.ptr 6 0 0)))), (8, (GI x17))], [(1, (.mpb pMa pMb x32)), (2, (.var [.cell (.lst (.list (.int .i64)) x5 false), .cell (.int .i64 x6), .cell (.mp 1)])), (3, (.var [.cell (.int .i64 x1), .cell (.int .i64 x2), .cell (.int .u8 x3)])), (4, (.var [.cell (.int .i64 0), .cell (.int .i64 0)])), (6, (.var [.cell (.int .i64 x19), .cell (.int .i64 y0)]))]⟩
def f68_p9_2_P (x17 x30 : Int) (x33 x19 : Int) (x32 : Mm) (x5 : LL) (x6 x1 : Int) (x2 x3 : Int) (x20 x31 : Int) (r : Int) : Prop := Ex cx f68_M 105 (part Try.f68 9) (f68_p9_2_H x17 x30 x33 x19 x32 x5 x6 x1 x2 x3 x20 x31) (f68_p9_2_x r) (f68_p9_2_s x17 x30 x33 x19 x32 x5 x6 x1 x2 x3 x20 x31 r)
def f68_p8_2_H (x17 x30 : Int) (x33 x19 : Int) (x32 : Mm) (x5 : LL) (x6 x1 : Int) (x2 x3 : Int) (x20 x31 : Int) : GS := ⟨[(0, (.r (.at (.ptr 2 0 0)))), (3, (.r (.at (.ptr 3 0 0)))), (4, (.r (.at (.ptr 4 0 0)))), (7, (.r (.at (.ptr 6 0 0)))), (8, (GI x17)), (11, (.r (.at (.ptr 7 0 0)))), (79, (.r (.at (.bool (decide ((w64 (x30 + x33)) > x19))))))], [(1, (.mpb pMa pMb x32)), (2, (.var [.cell (.lst (.list (.int .i64)) x5 false), .cell (.int .i64 x6), .cell (.mp 1)])), (3, (.var [.cell (.int .i64 x1), .cell (.int .i64 x2), .cell (.int .u8 x3)])), (4, (.var [.cell (.int .i64 0), .cell (.int .i64 0)])), (6, (.var [.cell (.int .i64 x19), .cell (.int .i64 x20)])), (7, (.var [.cell (.int .i64 (w64 (x30 + x33))), .cell (.int .i64 x31)]))]⟩
def f68_p8_2_x : (Int × Int) → GExit := fun (y0, y1) => .normal
def f68_p8_2_s (x17 x30 : Int) (x33 x19 : Int) (x32 : Mm) (x5 : LL) (x6 x1 : Int) (x2 x3 : Int) (x20 x31 : Int) : (Int × Int) → GS := fun (y0, y1) => ⟨[(0, (.r (.at (.ptr 2 0 0)))), (3, (.r (.at (.ptr 3 0 0)))), (4, (.r (.at (.ptr 4 0 0)))), (7, (.r (.at (.ptr 6 0 0)))), (8, (GI x17))], [(1, (.mpb pMa pMb x32)), (2, (.var [.cell (.lst (.list (.int .i64)) x5 false), .cell (.int .i64 x6), .cell (.mp 1)])), (3, (.var [.cell (.int .i64 x1), .cell (.int .i64 x2), .cell (.int .u8 x3)])), (4, (.var [.cell (.int .i64 0), .cell (.int .i64 0)])), (6, (.var [.cell (.int .i64 y0), .cell (.int .i64 y1)]))]⟩
def f68_p8_2_P (x17 x30 : Int) (x33 x19 : Int) (x32 : Mm) (x5 : LL) (x6 x1 : Int) (x2 x3 : Int) (x20 x31 : Int) (r : Int × Int) : Prop := Ex cx f68_M 105 (part Try.f68 8) (f68_p8_2_H x17 x30 x33 x19 x32 x5 x6 x1 x2 x3 x20 x31) (f68_p8_2_x r) (f68_p8_2_s x17 x30 x33 x19 x32 x5 x6 x1 x2 x3 x20 x31 r)
def f68_p3_H (x5 : LL) (x6 x1 : Int) (x2 x3 x17 : Int) (x18 : Mm) (x19 x20 : Int) : GS := ⟨[(0, (.r (.at (.ptr 2 0 0)))), (3, (.r (.at (.ptr 3 0 0)))), (4, (.r (.at (.ptr 4 0 0)))), (7, (.r (.at (.ptr 6 0 0)))), (8, (GI x17))], [(1, (.mpb pMa pMb x18)), (2, (.var [.cell (.lst (.list (.int .i64)) x5 false), .cell (.int .i64 x6), .cell (.mp 1)])), (3, (.var [.cell (.int .i64 x1), .cell (.int .i64 x2), .cell (.int .u8 x3)])), (4, (.var [.cell (.int .i64 0), .cell (.int .i64 0)])), (6, (.var [.cell (.int .i64 x19), .cell (.int .i64 x20)]))]⟩
def f68_p3_x : (Mm × Int × Int) → GExit := fun (y0, y1, y2) => (.exit 0)
def f68_p3_s (x5 : LL) (x6 x1 : Int) (x2 x3 : Int) : (Mm × Int × Int) → GS := fun (y0, y1, y2) => ⟨[(0, (.r (.at (.ptr 2 0 0)))), (3, (.r (.at (.ptr 3 0 0)))), (4, (.r (.at (.ptr 4 0 0)))), (7, (.r (.at (.ptr 6 0 0))))], [(1, (.mpb pMa pMb y0)), (2, (.var [.cell (.lst (.list (.int .i64)) x5 false), .cell (.int .i64 x6), .cell (.mp 1)])), (3, (.var [.cell (.int .i64 x1), .cell (.int .i64 x2), .cell (.int .u8 x3)])), (4, (.var [.cell (.int .i64 0), .cell (.int .i64 0)])), (6, (.var [.cell (.int .i64 y1), .cell (.int .i64 y2)]))]⟩
def f68_p3_P (x5 : LL) (x6 x1 : Int) (x2 x3 x17 : Int) (x18 : Mm) (x19 x20 : Int) (r : Mm × Int × Int) : Prop := Lp cx f68_M 105 (part Try.f68 3) (f68_p3_H x5 x6 x1 x2 x3 x17 x18 x19 x20) (f68_p3_x r) (f68_p3_s x5 x6 x1 x2 x3 r)
def f68_v : (Int × Int × Mm) → G := fun (y0, y1, y2) => (.r (.agg [.cell (.int .i64 y0), .cell (.int .i64 y1)]))
def f68_k0 : (Int × Int × Mm) → List (Nat × Blk) := fun (y0, y1, y2) => [(1, (.mpb pMa pMb y2))]
def f68_k (x1 x2 x3 : Int) (x4 : Mm) (x5 : LL) (x6 : Int) : (Int × Int × Mm) → List (Nat × Blk) := fun (y0, y1, y2) => [(1, (.mpb pMa pMb y2)), (2, (.var [.cell (.lst (.list (.int .i64)) x5 false), .cell (.int .i64 x6), .cell (.mp 1)]))]
def f68_A (x1 x2 x3 : Int) (x4 : Mm) (x5 : LL) (x6 : Int) : List G := [(.r (.at (.ptr 2 0 0))), (.r (.agg [.cell (.int .i64 x1), .cell (.int .i64 x2), .cell (.int .u8 x3)]))]
def f68_K (x1 x2 x3 : Int) (x4 : Mm) (x5 : LL) (x6 : Int) : List (Nat × Blk) := [(1, (.mpb pMa pMb x4)), (2, (.var [.cell (.lst (.list (.int .i64)) x5 false), .cell (.int .i64 x6), .cell (.mp 1)]))]
def f68_C (x1 x2 x3 : Int) (x4 : Mm) (x5 : LL) (x6 : Int) (r : Int × Int × Mm) : Prop := CallOK cx 68 (f68_A x1 x2 x3 x4 x5 x6) (f68_K x1 x2 x3 x4 x5 x6) [] (f68_v r) (f68_k x1 x2 x3 x4 x5 x6 r)

def f66_M : List Nat := [8]
def f66_p5_2_H (x64 : Int) (x2 : LL) (x3 x79 x80 : Int) (x81 : Mm) (x78 : LI) : GS := ⟨[(0, (.r (.at (.ptr 2 0 0)))), (3, (.r (.at (.int .u8 x79)))), (4, (.r (.at (.sl 8 0 (List.length x78))))), (5, (GI x64)), (6, (GI x80)), (15, (.r (.at (.int .i64 (LN x2))))), (16, (GI x64))], [(1, (.mpb pMa pMb x81)), (2, (.var [.cell (.lst (.list (.int .i64)) x2 false), .cell (.int .i64 x3), .cell (.mp 1)])), (8, (.gr (.int .i64) 3 x78 true))]⟩
def f66_p5_2_x : (Int × Mm × (List Int)) → GExit := fun (y0, y1, y2) => (.exit 2)
def f66_p5_2_s (x64 : Int) (x2 : LL) (x3 : Int) : (Int × Mm × (List Int)) → GS := fun (y0, y1, y2) => ⟨[(0, (.r (.at (.ptr 2 0 0)))), (3, (.r (.at (.int .u8 y0)))), (4, (.r (.at (.sl 8 0 (List.length y2))))), (15, (.r (.at (.int .i64 (LN x2))))), (16, (GI x64))], [(1, (.mpb pMa pMb y1)), (2, (.var [.cell (.lst (.list (.int .i64)) x2 false), .cell (.int .i64 x3), .cell (.mp 1)])), (8, (.gr (.int .i64) 3 y2 true))]⟩
def f66_p5_2_P (x64 : Int) (x2 : LL) (x3 x79 x80 : Int) (x81 : Mm) (x78 : LI) (r : Int × Mm × (List Int)) : Prop := Lp cx f66_M 62 (part Try.f66 5) (f66_p5_2_H x64 x2 x3 x79 x80 x81 x78) (f66_p5_2_x r) (f66_p5_2_s x64 x2 x3 r)
def f66_p1_H (x2 : LL) (x3 x63 x64 : Int) (x65 : Mm) (x62 : LI) : GS := ⟨[(0, (.r (.at (.ptr 2 0 0)))), (3, (.r (.at (.int .u8 x63)))), (4, (.r (.at (.sl 8 0 (List.length x62))))), (15, (.r (.at (.int .i64 (LN x2))))), (16, (GI x64))], [(1, (.mpb pMa pMb x65)), (2, (.var [.cell (.lst (.list (.int .i64)) x2 false), .cell (.int .i64 x3), .cell (.mp 1)])), (8, (.gr (.int .i64) 3 x62 true))]⟩
def f66_p1_x : (Mm × (List Int)) → GExit := fun (y0, y1) => (.exit 0)
def f66_p1_s (x2 : LL) (x3 : Int) : (Mm × (List Int)) → GS := fun (y0, y1) => ⟨[(4, (.r (.at (.sl 8 0 (List.length y1)))))], [(1, (.mpb pMa pMb y0)), (2, (.var [.cell (.lst (.list (.int .i64)) x2 false), .cell (.int .i64 x3), .cell (.mp 1)])), (8, (.gr (.int .i64) 3 y1 true))]⟩
def f66_p1_P (x2 : LL) (x3 x63 x64 : Int) (x65 : Mm) (x62 : LI) (r : Mm × (List Int)) : Prop := Lp cx f66_M 62 (part Try.f66 1) (f66_p1_H x2 x3 x63 x64 x65 x62) (f66_p1_x r) (f66_p1_s x2 x3 r)
def f66_v : ((List Int) × Mm) → G := fun (y0, y1) => (GL y0)
def f66_k0 : ((List Int) × Mm) → List (Nat × Blk) := fun (y0, y1) => [(1, (.mpb pMa pMb y1))]
def f66_k (x1 : Mm) (x2 : LL) (x3 : Int) : ((List Int) × Mm) → List (Nat × Blk) := fun (y0, y1) => [(1, (.mpb pMa pMb y1)), (2, (.var [.cell (.lst (.list (.int .i64)) x2 false), .cell (.int .i64 x3), .cell (.mp 1)]))]
def f66_A (x1 : Mm) (x2 : LL) (x3 : Int) : List G := [(.r (.at (.ptr 2 0 0)))]
def f66_K (x1 : Mm) (x2 : LL) (x3 : Int) : List (Nat × Blk) := [(1, (.mpb pMa pMb x1)), (2, (.var [.cell (.lst (.list (.int .i64)) x2 false), .cell (.int .i64 x3), .cell (.mp 1)]))]
def f66_C (x1 : Mm) (x2 : LL) (x3 : Int) (r : (List Int) × Mm) : Prop := CallOK cx 66 (f66_A x1 x2 x3) (f66_K x1 x2 x3) [] (f66_v r) (f66_k x1 x2 x3 r)

def f17_M : List Nat := [1, 2]
def f17_v : ((List Int) × Int) → G := fun (y0, y1) => (.tup [(.at (.lst (.int .i64) y0 false)), (.at (.int .i64 y1))])
def f17_k0 : ((List Int) × Int) → List (Nat × Blk) := fun (y0, y1) => []
def f17_k (x1 : LL) : ((List Int) × Int) → List (Nat × Blk) := fun (y0, y1) => []
def f17_A (x1 : LL) : List G := [(.r (.at (.lst (.list (.int .i64)) x1 false)))]
def f17_K (x1 : LL) : List (Nat × Blk) := []
def f17_C (x1 : LL) (r : (List Int) × Int) : Prop := CallOK cx 17 (f17_A x1) (f17_K x1) [] (f17_v r) (f17_k x1 r)

def f19_M : List Nat := [1, 2]
def f19_v : (Int × Int) → G := fun (y0, y1) => (.tup [(.at (.int .i64 y0)), (.at (.int .i64 y1))])
def f19_k0 : (Int × Int) → List (Nat × Blk) := fun (y0, y1) => []
def f19_k (x1 : LL) : (Int × Int) → List (Nat × Blk) := fun (y0, y1) => []
def f19_A (x1 : LL) : List G := [(.r (.at (.lst (.list (.int .i64)) x1 false)))]
def f19_K (x1 : LL) : List (Nat × Blk) := []
def f19_C (x1 : LL) (r : Int × Int) : Prop := CallOK cx 19 (f19_A x1) (f19_K x1) [] (f19_v r) (f19_k x1 r)

def f78_M : List Nat := []
def f78_v : (Int × Mm) → G := fun (y0, y1) => (GI y0)
def f78_k0 : (Int × Mm) → List (Nat × Blk) := fun (y0, y1) => [(1, (.mpb pMa pMb y1))]
def f78_k (x1 x2 : Int) (x3 : Mm) (x4 : LL) (x5 : Int) : (Int × Mm) → List (Nat × Blk) := fun (y0, y1) => [(1, (.mpb pMa pMb y1)), (2, (.var [.cell (.lst (.list (.int .i64)) x4 false), .cell (.int .i64 x5), .cell (.mp 1)]))]
def f78_A (x1 x2 : Int) (x3 : Mm) (x4 : LL) (x5 : Int) : List G := [(.r (.at (.ptr 2 0 0))), (GI x1), (GI x2)]
def f78_K (x1 x2 : Int) (x3 : Mm) (x4 : LL) (x5 : Int) : List (Nat × Blk) := [(1, (.mpb pMa pMb x3)), (2, (.var [.cell (.lst (.list (.int .i64)) x4 false), .cell (.int .i64 x5), .cell (.mp 1)]))]
def f78_C (x1 x2 : Int) (x3 : Mm) (x4 : LL) (x5 : Int) (r : Int × Mm) : Prop := CallOK cx 78 (f78_A x1 x2 x3 x4 x5) (f78_K x1 x2 x3 x4 x5) [] (f78_v r) (f78_k x1 x2 x3 x4 x5 r)

def f77_M : List Nat := [1, 2, 9]
def f77_p2_H (x7 : LI) (x5 : LL) (x6 x19 : Int) (x20 : Mm) (x18 : LI) : GS := ⟨[(1, (.r (.at (.fn 78)))), (6, (.r (.at (.ptr 2 0 0)))), (8, (.r (.at (.sl 9 0 (List.length x18))))), (20, (GL x7)), (21, (.r (.at (.int .i64 (LN x7))))), (22, (GI x19))], [(1, (.mpb pMa pMb x20)), (2, (.var [.cell (.lst (.list (.int .i64)) x5 false), .cell (.int .i64 x6), .cell (.mp 1)])), (9, (.gr (.int .i64) 3 x18 true))]⟩
def f77_p2_x : (List Int) → GExit := fun y0 => (.exit 0)
def f77_p2_s (x7 : LI) (x5 : LL) (x6 : Int) : (List Int) → GS := fun y0 => ⟨[(8, (.r (.at (.sl 9 0 (List.length y0)))))], [(9, (.gr (.int .i64) 3 y0 true))]⟩
def f77_p2_P (x7 : LI) (x5 : LL) (x6 x19 : Int) (x20 : Mm) (x18 : LI) (r : (List Int)) : Prop := Lp cx f77_M 37 (part Try.f77 2) (f77_p2_H x7 x5 x6 x19 x20 x18) (f77_p2_x r) (f77_p2_s x7 x5 x6 r)
def f77_v : ((List Int) × Int) → G := fun (y0, y1) => (.tup [(.at (.lst (.int .i64) y0 false)), (.at (.int .i64 y1))])
def f77_k0 : ((List Int) × Int) → List (Nat × Blk) := fun (y0, y1) => []
def f77_k (x1 : LL) : ((List Int) × Int) → List (Nat × Blk) := fun (y0, y1) => []
def f77_A (x1 : LL) : List G := [(.r (.at (.lst (.list (.int .i64)) x1 false))), (.r (.at (.fn 78)))]
def f77_K (x1 : LL) : List (Nat × Blk) := []
def f77_C (x1 : LL) (r : (List Int) × Int) : Prop := CallOK cx 77 (f77_A x1) (f77_K x1) [] (f77_v r) (f77_k x1 r)

def f26_M : List Nat := []
def f26_v : ((List Int) × Int) → G := fun (y0, y1) => (.tup [(.at (.lst (.int .i64) y0 false)), (.at (.int .i64 y1))])
def f26_k0 : ((List Int) × Int) → List (Nat × Blk) := fun (y0, y1) => []
def f26_k (x1 : LL) : ((List Int) × Int) → List (Nat × Blk) := fun (y0, y1) => []
def f26_A (x1 : LL) : List G := [(.r (.at (.lst (.list (.int .i64)) x1 false)))]
def f26_K (x1 : LL) : List (Nat × Blk) := []
def f26_C (x1 : LL) (r : (List Int) × Int) : Prop := CallOK cx 26 (f26_A x1) (f26_K x1) [] (f26_v r) (f26_k x1 r)

def f80_M : List Nat := []
def f80_v : (Int × Mm) → G := fun (y0, y1) => (GI y0)
def f80_k0 : (Int × Mm) → List (Nat × Blk) := fun (y0, y1) => [(1, (.mpb pMa pMb y1))]
def f80_k (x1 x2 : Int) (x3 : Mm) (x4 : LL) (x5 : Int) : (Int × Mm) → List (Nat × Blk) := fun (y0, y1) => [(1, (.mpb pMa pMb y1)), (2, (.var [.cell (.lst (.list (.int .i64)) x4 false), .cell (.int .i64 x5), .cell (.mp 1)]))]
def f80_A (x1 x2 : Int) (x3 : Mm) (x4 : LL) (x5 : Int) : List G := [(.r (.at (.ptr 2 0 0))), (GI x1), (GI x2)]
def f80_K (x1 x2 : Int) (x3 : Mm) (x4 : LL) (x5 : Int) : List (Nat × Blk) := [(1, (.mpb pMa pMb x3)), (2, (.var [.cell (.lst (.list (.int .i64)) x4 false), .cell (.int .i64 x5), .cell (.mp 1)]))]
def f80_C (x1 x2 : Int) (x3 : Mm) (x4 : LL) (x5 : Int) (r : Int × Mm) : Prop := CallOK cx 80 (f80_A x1 x2 x3 x4 x5) (f80_K x1 x2 x3 x4 x5) [] (f80_v r) (f80_k x1 x2 x3 x4 x5 r)

def f77_1_M : List Nat := [1, 2, 10]
def f77_1_p2_H (x7 : LI) (x5 : LL) (x6 x19 : Int) (x20 : Mm) (x18 : LI) : GS := ⟨[(1, (.r (.at (.fn 80)))), (6, (.r (.at (.ptr 2 0 0)))), (8, (.r (.at (.sl 10 0 (List.length x18))))), (20, (GL x7)), (21, (.r (.at (.int .i64 (LN x7))))), (22, (GI x19))], [(1, (.mpb pMa pMb x20)), (2, (.var [.cell (.lst (.list (.int .i64)) x5 false), .cell (.int .i64 x6), .cell (.mp 1)])), (10, (.gr (.int .i64) 3 x18 true))]⟩
def f77_1_p2_x : (List Int) → GExit := fun y0 => (.exit 0)
def f77_1_p2_s (x7 : LI) (x5 : LL) (x6 : Int) : (List Int) → GS := fun y0 => ⟨[(8, (.r (.at (.sl 10 0 (List.length y0)))))], [(10, (.gr (.int .i64) 3 y0 true))]⟩
def f77_1_p2_P (x7 : LI) (x5 : LL) (x6 x19 : Int) (x20 : Mm) (x18 : LI) (r : (List Int)) : Prop := Lp cx f77_1_M 37 (part Try.f77 2) (f77_1_p2_H x7 x5 x6 x19 x20 x18) (f77_1_p2_x r) (f77_1_p2_s x7 x5 x6 r)
def f77_1_v : ((List Int) × Int) → G := fun (y0, y1) => (.tup [(.at (.lst (.int .i64) y0 false)), (.at (.int .i64 y1))])
def f77_1_k0 : ((List Int) × Int) → List (Nat × Blk) := fun (y0, y1) => []
def f77_1_k (x1 : LL) : ((List Int) × Int) → List (Nat × Blk) := fun (y0, y1) => []
def f77_1_A (x1 : LL) : List G := [(.r (.at (.lst (.list (.int .i64)) x1 false))), (.r (.at (.fn 80)))]
def f77_1_K (x1 : LL) : List (Nat × Blk) := []
def f77_1_C (x1 : LL) (r : (List Int) × Int) : Prop := CallOK cx 77 (f77_1_A x1) (f77_1_K x1) [] (f77_1_v r) (f77_1_k x1 r)

def f28_M : List Nat := []
def f28_v : ((List Int) × Int) → G := fun (y0, y1) => (.tup [(.at (.lst (.int .i64) y0 false)), (.at (.int .i64 y1))])
def f28_k0 : ((List Int) × Int) → List (Nat × Blk) := fun (y0, y1) => []
def f28_k (x1 : LL) : ((List Int) × Int) → List (Nat × Blk) := fun (y0, y1) => []
def f28_A (x1 : LL) : List G := [(.r (.at (.lst (.list (.int .i64)) x1 false)))]
def f28_K (x1 : LL) : List (Nat × Blk) := []
def f28_C (x1 : LL) (r : (List Int) × Int) : Prop := CallOK cx 28 (f28_A x1) (f28_K x1) [] (f28_v r) (f28_k x1 r)

def f65_1_M : List Nat := [11, 12]
def f65_1_v : f65_1_R → G := fun
 | .c0 y0 => (.tup [(.at .nilp), (.at (.int .i64 y0))])
 | .c1 y0 y1 y2 y3 => (.tup [(.at (.ptr 12 0 0)), (.at (.int .i64 y0))])
def f65_1_k0 : f65_1_R → List (Nat × Blk) := fun
 | .c0 y0 => []
 | .c1 y0 y1 y2 y3 => [(11, (.mpb pMa pMb y1)), (12, (.var [.cell (.lst (.list (.int .i64)) y2 false), .cell (.int .i64 y3), .cell (.mp 11)]))]
def f65_1_k (x1 : LL) : f65_1_R → List (Nat × Blk) := fun
 | .c0 y0 => []
 | .c1 y0 y1 y2 y3 => [(11, (.mpb pMa pMb y1)), (12, (.var [.cell (.lst (.list (.int .i64)) y2 false), .cell (.int .i64 y3), .cell (.mp 11)]))]
def f65_1_A (x1 : LL) : List G := [(.r (.at (.lst (.list (.int .i64)) x1 false)))]
def f65_1_K (x1 : LL) : List (Nat × Blk) := []
def f65_1_C (x1 : LL) (r : f65_1_R) : Prop := CallOK cx 65 (f65_1_A x1) (f65_1_K x1) [] (f65_1_v r) (f65_1_k x1 r)

def f52_M : List Nat := [13]
def f52_v : (List (List Int)) → G := fun y0 => (.r (.at (.sl 13 0 (List.length y0))))
def f52_k0 : (List (List Int)) → List (Nat × Blk) := fun y0 => [(13, (.gr (.list (.int .i64)) 23 y0 true))]
def f52_k (x1 : LL) : (List (List Int)) → List (Nat × Blk) := fun y0 => [(13, (.gr (.list (.int .i64)) 23 y0 true))]
def f52_A (x1 : LL) : List G := [(.r (.at (.lst (.list (.int .i64)) x1 false)))]
def f52_K (x1 : LL) : List (Nat × Blk) := []
def f52_C (x1 : LL) (r : (List (List Int))) : Prop := CallOK cx 52 (f52_A x1) (f52_K x1) [] (f52_v r) (f52_k x1 r)

def f65_2_M : List Nat := [14, 15]
def f65_2_v : f65_2_R → G := fun
 | .c0 y0 => (.tup [(.at .nilp), (.at (.int .i64 y0))])
 | .c1 y0 y1 y2 y3 => (.tup [(.at (.ptr 15 0 0)), (.at (.int .i64 y0))])
def f65_2_k0 : f65_2_R → List (Nat × Blk) := fun
 | .c0 y0 => []
 | .c1 y0 y1 y2 y3 => [(14, (.mpb pMa pMb y1)), (15, (.var [.cell (.lst (.list (.int .i64)) y2 false), .cell (.int .i64 y3), .cell (.mp 14)]))]
def f65_2_k (x1 : LL) : f65_2_R → List (Nat × Blk) := fun
 | .c0 y0 => []
 | .c1 y0 y1 y2 y3 => [(14, (.mpb pMa pMb y1)), (15, (.var [.cell (.lst (.list (.int .i64)) y2 false), .cell (.int .i64 y3), .cell (.mp 14)]))]
def f65_2_A (x1 : LL) : List G := [(.r (.at (.lst (.list (.int .i64)) x1 false)))]
def f65_2_K (x1 : LL) : List (Nat × Blk) := []
def f65_2_C (x1 : LL) (r : f65_2_R) : Prop := CallOK cx 65 (f65_2_A x1) (f65_2_K x1) [] (f65_2_v r) (f65_2_k x1 r)

def f69_1_M : List Nat := []
def f69_1_v : f69_1_R → G := fun r => nomatch r
def f69_1_k0 : f69_1_R → List (Nat × Blk) := fun r => nomatch r
def f69_1_k : f69_1_R → List (Nat × Blk) := fun r => nomatch r
def f69_1_A : List G := [(.r (.at .nilp))]
def f69_1_K : List (Nat × Blk) := []
def f69_1_C (r : f69_1_R) : Prop := CallOK cx 69 (f69_1_A) (f69_1_K) [] (f69_1_v r) (f69_1_k r)

def f66_1_M : List Nat := []
def f66_1_v : f66_1_R → G := fun r => nomatch r
def f66_1_k0 : f66_1_R → List (Nat × Blk) := fun r => nomatch r
def f66_1_k : f66_1_R → List (Nat × Blk) := fun r => nomatch r
def f66_1_A : List G := [(.r (.at .nilp))]
def f66_1_K : List (Nat × Blk) := []
def f66_1_C (r : f66_1_R) : Prop := CallOK cx 66 (f66_1_A) (f66_1_K) [] (f66_1_v r) (f66_1_k r)

def f69_2_M : List Nat := []
def f69_2_v : Int → G := fun y0 => (.r (.at (.int .u8 y0)))
def f69_2_k0 : Int → List (Nat × Blk) := fun y0 => []
def f69_2_k (x1 : Mm) (x2 : LL) (x3 : Int) : Int → List (Nat × Blk) := fun y0 => [(14, (.mpb pMa pMb x1)), (15, (.var [.cell (.lst (.list (.int .i64)) x2 false), .cell (.int .i64 x3), .cell (.mp 14)]))]
def f69_2_A (x1 : Mm) (x2 : LL) (x3 : Int) : List G := [(.r (.at (.ptr 15 0 0)))]
def f69_2_K (x1 : Mm) (x2 : LL) (x3 : Int) : List (Nat × Blk) := [(14, (.mpb pMa pMb x1)), (15, (.var [.cell (.lst (.list (.int .i64)) x2 false), .cell (.int .i64 x3), .cell (.mp 14)]))]
def f69_2_C (x1 : Mm) (x2 : LL) (x3 : Int) (r : Int) : Prop := CallOK cx 69 (f69_2_A x1 x2 x3) (f69_2_K x1 x2 x3) [] (f69_2_v r) (f69_2_k x1 x2 x3 r)

def f72_1_M : List Nat := []
def f72_1_v : Int → G := fun y0 => (GI y0)
def f72_1_k0 : Int → List (Nat × Blk) := fun y0 => []
def f72_1_k (x1 x2 : Int) (x3 : Mm) (x4 : LL) (x5 : Int) : Int → List (Nat × Blk) := fun y0 => [(14, (.mpb pMa pMb x3)), (15, (.var [.cell (.lst (.list (.int .i64)) x4 false), .cell (.int .i64 x5), .cell (.mp 14)]))]
def f72_1_A (x1 x2 : Int) (x3 : Mm) (x4 : LL) (x5 : Int) : List G := [(.r (.at (.ptr 15 0 0))), (GI x1), (GI x2)]
def f72_1_K (x1 x2 : Int) (x3 : Mm) (x4 : LL) (x5 : Int) : List (Nat × Blk) := [(14, (.mpb pMa pMb x3)), (15, (.var [.cell (.lst (.list (.int .i64)) x4 false), .cell (.int .i64 x5), .cell (.mp 14)]))]
def f72_1_C (x1 x2 : Int) (x3 : Mm) (x4 : LL) (x5 : Int) (r : Int) : Prop := CallOK cx 72 (f72_1_A x1 x2 x3 x4 x5) (f72_1_K x1 x2 x3 x4 x5) [] (f72_1_v r) (f72_1_k x1 x2 x3 x4 x5 r)

def f68_1_M : List Nat := [16, 17, 18, 19, 20]
def f68_1_p9_1_H (x17 x23 : Int) (x26 x19 : Int) (x25 : Mm) (x5 : LL) (x6 x1 : Int) (x2 x3 : Int) (x20 x24 : Int) : GS := ⟨[(0, (.r (.at (.ptr 15 0 0)))), (3, (.r (.at (.ptr 16 0 0)))), (4, (.r (.at (.ptr 17 0 0)))), (7, (.r (.at (.ptr 19 0 0)))), (8, (GI x17)), (11, (.r (.at (.ptr 20 0 0)))), (86, (.r (.at (.bool ((w64 (x23 + x26)) == x19)))))], [(14, (.mpb pMa pMb x25)), (15, (.var [.cell (.lst (.list (.int .i64)) x5 false), .cell (.int .i64 x6), .cell (.mp 14)])), (16, (.var [.cell (.int .i64 x1), .cell (.int .i64 x2), .cell (.int .u8 x3)])), (17, (.var [.cell (.int .i64 0), .cell (.int .i64 0)])), (19, (.var [.cell (.int .i64 x19), .cell (.int .i64 x20)])), (20, (.var [.cell (.int .i64 (w64 (x23 + x26))), .cell (.int .i64 x24)]))]⟩
def f68_1_p9_1_x : Int → GExit := fun y0 => .normal
def f68_1_p9_1_s (x17 x23 : Int) (x26 x19 : Int) (x25 : Mm) (x5 : LL) (x6 x1 : Int) (x2 x3 : Int) (x20 x24 : Int) : Int → GS := fun y0 => ⟨[(0, (.r (.at (.ptr 15 0 0)))), (3, (.r (.at (.ptr 16 0 0)))), (4, (.r (.at (.ptr 17 0 0)))), (7, (.r (.at (.ptr 19 0 0)))), (8, (GI x17))], [(14, (.mpb pMa pMb x25)), (15, (.var [.cell (.lst (.list (.int .i64)) x5 false), .cell (.int .i64 x6), .cell (.mp 14)])), (16, (.var [.cell (.int .i64 x1), .cell (.int .i64 x2), .cell (.int .u8 x3)])), (17, (.var [.cell (.int .i64 0), .cell (.int .i64 0)])), (19, (.var [.cell (.int .i64 x19), .cell (.int .i64 y0)]))]⟩
def f68_1_p9_1_P (x17 x23 : Int) (x26 x19 : Int) (x25 : Mm) (x5 : LL) (x6 x1 : Int) (x2 x3 : Int) (x20 x24 : Int) (r : Int) : Prop := Ex cx f68_1_M 105 (part Try.f68 9) (f68_1_p9_1_H x17 x23 x26 x19 x25 x5 x6 x1 x2 x3 x20 x24) (f68_1_p9_1_x r) (f68_1_p9_1_s x17 x23 x26 x19 x25 x5 x6 x1 x2 x3 x20 x24 r)
def f68_1_p8_1_H (x17 x23 : Int) (x26 x19 : Int) (x25 : Mm) (x5 : LL) (x6 x1 : Int) (x2 x3 : Int) (x20 x24 : Int) : GS := ⟨[(0, (.r (.at (.ptr 15 0 0)))), (3, (.r (.at (.ptr 16 0 0)))), (4, (.r (.at (.ptr 17 0 0)))), (7, (.r (.at (.ptr 19 0 0)))), (8, (GI x17)), (11, (.r (.at (.ptr 20 0 0)))), (79, (.r (.at (.bool (decide ((w64 (x23 + x26)) > x19))))))], [(14, (.mpb pMa pMb x25)), (15, (.var [.cell (.lst (.list (.int .i64)) x5 false), .cell (.int .i64 x6), .cell (.mp 14)])), (16, (.var [.cell (.int .i64 x1), .cell (.int .i64 x2), .cell (.int .u8 x3)])), (17, (.var [.cell (.int .i64 0), .cell (.int .i64 0)])), (19, (.var [.cell (.int .i64 x19), .cell (.int .i64 x20)])), (20, (.var [.cell (.int .i64 (w64 (x23 + x26))), .cell (.int .i64 x24)]))]⟩
def f68_1_p8_1_x : (Int × Int) → GExit := fun (y0, y1) => .normal
def f68_1_p8_1_s (x17 x23 : Int) (x26 x19 : Int) (x25 : Mm) (x5 : LL) (x6 x1 : Int) (x2 x3 : Int) (x20 x24 : Int) : (Int × Int) → GS := fun (y0, y1) => ⟨[(0, (.r (.at (.ptr 15 0 0)))), (3, (.r (.at (.ptr 16 0 0)))), (4, (.r (.at (.ptr 17 0 0)))), (7, (.r (.at (.ptr 19 0 0)))), (8, (GI x17))], [(14, (.mpb pMa pMb x25)), (15, (.var [.cell (.lst (.list (.int .i64)) x5 false), .cell (.int .i64 x6), .cell (.mp 14)])), (16, (.var [.cell (.int .i64 x1), .cell (.int .i64 x2), .cell (.int .u8 x3)])), (17, (.var [.cell (.int .i64 0), .cell (.int .i64 0)])), (19, (.var [.cell (.int .i64 y0), .cell (.int .i64 y1)]))]⟩
def f68_1_p8_1_P (x17 x23 : Int) (x26 x19 : Int) (x25 : Mm) (x5 : LL) (x6 x1 : Int) (x2 x3 : Int) (x20 x24 : Int) (r : Int × Int) : Prop := Ex cx f68_1_M 105 (part Try.f68 8) (f68_1_p8_1_H x17 x23 x26 x19 x25 x5 x6 x1 x2 x3 x20 x24) (f68_1_p8_1_x r) (f68_1_p8_1_s x17 x23 x26 x19 x25 x5 x6 x1 x2 x3 x20 x24 r)
def f68_1_p9_2_H (x17 x30 : Int) (x33 x19 : Int) (x32 : Mm) (x5 : LL) (x6 x1 : Int) (x2 x3 : Int) (x20 x31 : Int) : GS := ⟨[(0, (.r (.at (.ptr 15 0 0)))), (3, (.r (.at (.ptr 16 0 0)))), (4, (.r (.at (.ptr 17 0 0)))), (7, (.r (.at (.ptr 19 0 0)))), (8, (GI x17)), (11, (.r (.at (.ptr 20 0 0)))), (86, (.r (.at (.bool ((w64 (x30 + x33)) == x19)))))], [(14, (.mpb pMa pMb x32)), (15, (.var [.cell (.lst (.list (.int .i64)) x5 false), .cell (.int .i64 x6), .cell (.mp 14)])), (16, (.var [.cell (.int .i64 x1), .cell (.int .i64 x2), .cell (.int .u8 x3)])), (17, (.var [.cell (.int .i64 0), .cell (.int .i64 0)])), (19, (.var [.cell (.int .i64 x19), .cell (.int .i64 x20)])), (20, (.var [.cell (.int .i64 (w64 (x30 + x33))), .cell (.int .i64 x31)]))]⟩
def f68_1_p9_2_x : Int → GExit := fun y0 => .normal
def f68_1_p9_2_s (x17 x30 : Int) (x33 x19 : Int) (x32 : Mm) (x5 : LL) (x6 x1 : Int) (x2 x3 : Int) (x20 x31 : Int) : Int → GS := fun y0 => ⟨[(0, (.r (.at (.ptr 15 0 0)))), (3, (.r (.at (.ptr 16 0 0)))), (4, (.r (.at (.ptr 17 0 0)))), (7, (.r (.at (.ptr 19 0 0)))), (8, (GI x17))], [(14, (.mpb pMa pMb x32)), (15, (.var [.cell (.lst (.list (.int .i64)) x5 false), .cell (.int .i64 x6), .cell (.mp 14)])), (16, (.var [.cell (.int .i64 x1), .cell (.int .i64 x2), .cell (.int .u8 x3)])), (17, (.var [.cell (.int .i64 0), .cell (.int .i64 0)])), (19, (.var [.cell (.int .i64 x19), .cell (.int .i64 y0)]))]⟩
def f68_1_p9_2_P (x17 x30 : Int) (x33 x19 : Int) (x32 : Mm) (x5 : LL) (x6 x1 : Int) (x2 x3 : Int) (x20 x31 : Int) (r : Int) : Prop := Ex cx f68_1_M 105 (part Try.f68 9) (f68_1_p9_2_H x17 x30 x33 x19 x32 x5 x6 x1 x2 x3 x20 x31) (f68_1_p9_2_x r) (f68_1_p9_2_s x17 x30 x33 x19 x32 x5 x6 x1 x2 x3 x20 x31 r)
def f68_1_p8_2_H (x17 x30 : Int) (x33 x19 : Int) (x32 : Mm) (x5 : LL) (x6 x1 : Int) (x2 x3 : Int) (x20 x31 : Int) : GS := ⟨[(0, (.r (.at (.ptr 15 0 0)))), (3, (.r (.at (.ptr 16 0 0)))), (4, (.r (.at (.ptr 17 0 0)))), (7, (.r (.at (.ptr 19 0 0)))), (8, (GI x17)), (11, (.r (.at (.ptr 20 0 0)))), (79, (.r (.at (.bool (decide ((w64 (x30 + x33)) > x19))))))], [(14, (.mpb pMa pMb x32)), (15, (.var [.cell (.lst (.list (.int .i64)) x5 false), .cell (.int .i64 x6), .cell (.mp 14)])), (16, (.var [.cell (.int .i64 x1), .cell (.int .i64 x2), .cell (.int .u8 x3)])), (17, (.var [.cell (.int .i64 0), .cell (.int .i64 0)])), (19, (.var [.cell (.int .i64 x19), .cell (.int .i64 x20)])), (20, (.var [.cell (.int .i64 (w64 (x30 + x33))), .cell (.int .i64 x31)]))]⟩
def f68_1_p8_2_x : (Int × Int) → GExit := fun (y0, y1) => .normal
def f68_1_p8_2_s (x17 x30 : Int) (x33 x19 : Int) (x32 : Mm) (x5 : LL) (x6 x1 : Int) (x2 x3 : Int) (x20 x31 : Int) : (Int × Int) → GS := fun (y0, y1) => ⟨[(0, (.r (.at (.ptr 15 0 0)))), (3, (.r (.at (.ptr 16 0 0)))), (4, (.r (.at (.ptr 17 0 0)))), (7, (.r (.at (.ptr 19 0 0)))), (8, (GI x17))], [(14, (.mpb pMa pMb x32)), (15, (.var [.cell (.lst (.list (.int .i64)) x5 false), .cell (.int .i64 x6), .cell (.mp 14)])), (16, (.var [.cell (.int .i64 x1), .cell (.int .i64 x2), .cell (.int .u8 x3)])), (17, (.var [.cell (.int .i64 0), .cell (.int .i64 0)])), (19, (.var [.cell (.int .i64 y0), .cell (.int .i64 y1)]))]⟩
def f68_1_p8_2_P (x17 x30 : Int) (x33 x19 : Int) (x32 : Mm) (x5 : LL) (x6 x1 : Int) (x2 x3 : Int) (x20 x31 : Int) (r : Int × Int) : Prop := Ex cx f68_1_M 105 (part Try.f68 8) (f68_1_p8_2_H x17 x30 x33 x19 x32 x5 x6 x1 x2 x3 x20 x31) (f68_1_p8_2_x r) (f68_1_p8_2_s x17 x30 x33 x19 x32 x5 x6 x1 x2 x3 x20 x31 r)
def f68_1_p3_H (x5 : LL) (x6 x1 : Int) (x2 x3 x17 : Int) (x18 : Mm) (x19 x20 : Int) : GS := ⟨[(0, (.r (.at (.ptr 15 0 0)))), (3, (.r (.at (.ptr 16 0 0)))), (4, (.r (.at (.ptr 17 0 0)))), (7, (.r (.at (.ptr 19 0 0)))), (8, (GI x17))], [(14, (.mpb pMa pMb x18)), (15, (.var [.cell (.lst (.list (.int .i64)) x5 false), .cell (.int .i64 x6), .cell (.mp 14)])), (16, (.var [.cell (.int .i64 x1), .cell (.int .i64 x2), .cell (.int .u8 x3)])), (17, (.var [.cell (.int .i64 0), .cell (.int .i64 0)])), (19, (.var [.cell (.int .i64 x19), .cell (.int .i64 x20)]))]⟩
def f68_1_p3_x : (Mm × Int × Int) → GExit := fun (y0, y1, y2) => (.exit 0)
def f68_1_p3_s (x5 : LL) (x6 x1 : Int) (x2 x3 : Int) : (Mm × Int × Int) → GS := fun (y0, y1, y2) => ⟨[(0, (.r (.at (.ptr 15 0 0)))), (3, (.r (.at (.ptr 16 0 0)))), (4, (.r (.at (.ptr 17 0 0)))), (7, (.r (.at (.ptr 19 0 0))))], [(14, (.mpb pMa pMb y0)), (15, (.var [.cell (.lst (.list (.int .i64)) x5 false), .cell (.int .i64 x6), .cell (.mp 14)])), (16, (.var [.cell (.int .i64 x1), .cell (.int .i64 x2), .cell (.int .u8 x3)])), (17, (.var [.cell (.int .i64 0), .cell (.int .i64 0)])), (19, (.var [.cell (.int .i64 y1), .cell (.int .i64 y2)]))]⟩
def f68_1_p3_P (x5 : LL) (x6 x1 : Int) (x2 x3 x17 : Int) (x18 : Mm) (x19 x20 : Int) (r : Mm × Int × Int) : Prop := Lp cx f68_1_M 105 (part Try.f68 3) (f68_1_p3_H x5 x6 x1 x2 x3 x17 x18 x19 x20) (f68_1_p3_x r) (f68_1_p3_s x5 x6 x1 x2 x3 r)
def f68_1_v : (Int × Int × Mm) → G := fun (y0, y1, y2) => (.r (.agg [.cell (.int .i64 y0), .cell (.int .i64 y1)]))
def f68_1_k0 : (Int × Int × Mm) → List (Nat × Blk) := fun (y0, y1, y2) => [(14, (.mpb pMa pMb y2))]
def f68_1_k (x1 x2 x3 : Int) (x4 : Mm) (x5 : LL) (x6 : Int) : (Int × Int × Mm) → List (Nat × Blk) := fun (y0, y1, y2) => [(14, (.mpb pMa pMb y2)), (15, (.var [.cell (.lst (.list (.int .i64)) x5 false), .cell (.int .i64 x6), .cell (.mp 14)]))]
def f68_1_A (x1 x2 x3 : Int) (x4 : Mm) (x5 : LL) (x6 : Int) : List G := [(.r (.at (.ptr 15 0 0))), (.r (.agg [.cell (.int .i64 x1), .cell (.int .i64 x2), .cell (.int .u8 x3)]))]
def f68_1_K (x1 x2 x3 : Int) (x4 : Mm) (x5 : LL) (x6 : Int) : List (Nat × Blk) := [(14, (.mpb pMa pMb x4)), (15, (.var [.cell (.lst (.list (.int .i64)) x5 false), .cell (.int .i64 x6), .cell (.mp 14)]))]
def f68_1_C (x1 x2 x3 : Int) (x4 : Mm) (x5 : LL) (x6 : Int) (r : Int × Int × Mm) : Prop := CallOK cx 68 (f68_1_A x1 x2 x3 x4 x5 x6) (f68_1_K x1 x2 x3 x4 x5 x6) [] (f68_1_v r) (f68_1_k x1 x2 x3 x4 x5 x6 r)

def f66_2_M : List Nat := [21]
def f66_2_p5_2_H (x64 : Int) (x2 : LL) (x3 x79 x80 : Int) (x81 : Mm) (x78 : LI) : GS := ⟨[(0, (.r (.at (.ptr 15 0 0)))), (3, (.r (.at (.int .u8 x79)))), (4, (.r (.at (.sl 21 0 (List.length x78))))), (5, (GI x64)), (6, (GI x80)), (15, (.r (.at (.int .i64 (LN x2))))), (16, (GI x64))], [(14, (.mpb pMa pMb x81)), (15, (.var [.cell (.lst (.list (.int .i64)) x2 false), .cell (.int .i64 x3), .cell (.mp 14)])), (21, (.gr (.int .i64) 3 x78 true))]⟩
def f66_2_p5_2_x : (Int × Mm × (List Int)) → GExit := fun (y0, y1, y2) => (.exit 2)
def f66_2_p5_2_s (x64 : Int) (x2 : LL) (x3 : Int) : (Int × Mm × (List Int)) → GS := fun (y0, y1, y2) => ⟨[(0, (.r (.at (.ptr 15 0 0)))), (3, (.r (.at (.int .u8 y0)))), (4, (.r (.at (.sl 21 0 (List.length y2))))), (15, (.r (.at (.int .i64 (LN x2))))), (16, (GI x64))], [(14, (.mpb pMa pMb y1)), (15, (.var [.cell (.lst (.list (.int .i64)) x2 false), .cell (.int .i64 x3), .cell (.mp 14)])), (21, (.gr (.int .i64) 3 y2 true))]⟩
def f66_2_p5_2_P (x64 : Int) (x2 : LL) (x3 x79 x80 : Int) (x81 : Mm) (x78 : LI) (r : Int × Mm × (List Int)) : Prop := Lp cx f66_2_M 62 (part Try.f66 5) (f66_2_p5_2_H x64 x2 x3 x79 x80 x81 x78) (f66_2_p5_2_x r) (f66_2_p5_2_s x64 x2 x3 r)
def f66_2_p1_H (x2 : LL) (x3 x63 x64 : Int) (x65 : Mm) (x62 : LI) : GS := ⟨[(0, (.r (.at (.ptr 15 0 0)))), (3, (.r (.at (.int .u8 x63)))), (4, (.r (.at (.sl 21 0 (List.length x62))))), (15, (.r (.at (.int .i64 (LN x2))))), (16, (GI x64))], [(14, (.mpb pMa pMb x65)), (15, (.var [.cell (.lst (.list (.int .i64)) x2 false), .cell (.int .i64 x3), .cell (.mp 14)])), (21, (.gr (.int .i64) 3 x62 true))]⟩
def f66_2_p1_x : (Mm × (List Int)) → GExit := fun (y0, y1) => (.exit 0)
def f66_2_p1_s (x2 : LL) (x3 : Int) : (Mm × (List Int)) → GS := fun (y0, y1) => ⟨[(4, (.r (.at (.sl 21 0 (List.length y1)))))], [(14, (.mpb pMa pMb y0)), (15, (.var [.cell (.lst (.list (.int .i64)) x2 false), .cell (.int .i64 x3), .cell (.mp 14)])), (21, (.gr (.int .i64) 3 y1 true))]⟩
def f66_2_p1_P (x2 : LL) (x3 x63 x64 : Int) (x65 : Mm) (x62 : LI) (r : Mm × (List Int)) : Prop := Lp cx f66_2_M 62 (part Try.f66 1) (f66_2_p1_H x2 x3 x63 x64 x65 x62) (f66_2_p1_x r) (f66_2_p1_s x2 x3 r)
def f66_2_v : ((List Int) × Mm) → G := fun (y0, y1) => (GL y0)
def f66_2_k0 : ((List Int) × Mm) → List (Nat × Blk) := fun (y0, y1) => [(14, (.mpb pMa pMb y1))]
def f66_2_k (x1 : Mm) (x2 : LL) (x3 : Int) : ((List Int) × Mm) → List (Nat × Blk) := fun (y0, y1) => [(14, (.mpb pMa pMb y1)), (15, (.var [.cell (.lst (.list (.int .i64)) x2 false), .cell (.int .i64 x3), .cell (.mp 14)]))]
def f66_2_A (x1 : Mm) (x2 : LL) (x3 : Int) : List G := [(.r (.at (.ptr 15 0 0)))]
def f66_2_K (x1 : Mm) (x2 : LL) (x3 : Int) : List (Nat × Blk) := [(14, (.mpb pMa pMb x1)), (15, (.var [.cell (.lst (.list (.int .i64)) x2 false), .cell (.int .i64 x3), .cell (.mp 14)]))]
def f66_2_C (x1 : Mm) (x2 : LL) (x3 : Int) (r : (List Int) × Mm) : Prop := CallOK cx 66 (f66_2_A x1 x2 x3) (f66_2_K x1 x2 x3) [] (f66_2_v r) (f66_2_k x1 x2 x3 r)

def f78_1_M : List Nat := []
def f78_1_v : (Int × Mm) → G := fun (y0, y1) => (GI y0)
def f78_1_k0 : (Int × Mm) → List (Nat × Blk) := fun (y0, y1) => [(14, (.mpb pMa pMb y1))]
def f78_1_k (x1 x2 : Int) (x3 : Mm) (x4 : LL) (x5 : Int) : (Int × Mm) → List (Nat × Blk) := fun (y0, y1) => [(14, (.mpb pMa pMb y1)), (15, (.var [.cell (.lst (.list (.int .i64)) x4 false), .cell (.int .i64 x5), .cell (.mp 14)]))]
def f78_1_A (x1 x2 : Int) (x3 : Mm) (x4 : LL) (x5 : Int) : List G := [(.r (.at (.ptr 15 0 0))), (GI x1), (GI x2)]
def f78_1_K (x1 x2 : Int) (x3 : Mm) (x4 : LL) (x5 : Int) : List (Nat × Blk) := [(14, (.mpb pMa pMb x3)), (15, (.var [.cell (.lst (.list (.int .i64)) x4 false), .cell (.int .i64 x5), .cell (.mp 14)]))]
def f78_1_C (x1 x2 : Int) (x3 : Mm) (x4 : LL) (x5 : Int) (r : Int × Mm) : Prop := CallOK cx 78 (f78_1_A x1 x2 x3 x4 x5) (f78_1_K x1 x2 x3 x4 x5) [] (f78_1_v r) (f78_1_k x1 x2 x3 x4 x5 r)

def f72_2_M : List Nat := []
def f72_2_v : Int → G := fun y0 => (GI y0)
def f72_2_k0 : Int → List (Nat × Blk) := fun y0 => []
def f72_2_k (x1 x2 : Int) (x3 : Mm) (x4 : LL) (x5 : Int) : Int → List (Nat × Blk) := fun y0 => [(11, (.mpb pMa pMb x3)), (12, (.var [.cell (.lst (.list (.int .i64)) x4 false), .cell (.int .i64 x5), .cell (.mp 11)]))]
def f72_2_A (x1 x2 : Int) (x3 : Mm) (x4 : LL) (x5 : Int) : List G := [(.r (.at (.ptr 12 0 0))), (GI x1), (GI x2)]
def f72_2_K (x1 x2 : Int) (x3 : Mm) (x4 : LL) (x5 : Int) : List (Nat × Blk) := [(11, (.mpb pMa pMb x3)), (12, (.var [.cell (.lst (.list (.int .i64)) x4 false), .cell (.int .i64 x5), .cell (.mp 11)]))]
def f72_2_C (x1 x2 : Int) (x3 : Mm) (x4 : LL) (x5 : Int) (r : Int) : Prop := CallOK cx 72 (f72_2_A x1 x2 x3 x4 x5) (f72_2_K x1 x2 x3 x4 x5) [] (f72_2_v r) (f72_2_k x1 x2 x3 x4 x5 r)

def f30_M : List Nat := [11, 12, 13, 14, 15]
def f30_p0_H (x1 : LL) (x2 : Int) (x3 : LI) (x5 : Int) (x9 : Bool) (x6 : Mm) (x7 : LL) (x8 : Int) : GS := ⟨[(0, (.r (.at (.lst (.list (.int .i64)) x1 false)))), (1, (GI x2)), (2, (GL x3)), (9, (GI x5)), (10, (.r (.at (.ptr 12 0 0)))), (28, (.r (.at (.bool (!x9)))))], [(11, (.mpb pMa pMb x6)), (12, (.var [.cell (.lst (.list (.int .i64)) x7 false), .cell (.int .i64 x8), .cell (.mp 11)]))]⟩
def f30_p0_x : Int → GExit := fun y0 => .normal
def f30_p0_s (x1 : LL) (x2 : Int) (x3 : LI) (x5 : Int) (x9 : Bool) (x6 : Mm) (x7 : LL) (x8 : Int) : Int → GS := fun y0 => ⟨[(0, (.r (.at (.lst (.list (.int .i64)) x1 false)))), (1, (GI x2)), (2, (GL x3)), (9, (GI y0)), (10, (.r (.at (.ptr 12 0 0))))], [(11, (.mpb pMa pMb x6)), (12, (.var [.cell (.lst (.list (.int .i64)) x7 false), .cell (.int .i64 x8), .cell (.mp 11)]))]⟩
def f30_p0_P (x1 : LL) (x2 : Int) (x3 : LI) (x5 : Int) (x9 : Bool) (x6 : Mm) (x7 : LL) (x8 : Int) (r : Int) : Prop := Ex cx f30_M 68 (part Try.f30 0) (f30_p0_H x1 x2 x3 x5 x9 x6 x7 x8) (f30_p0_x r) (f30_p0_s x1 x2 x3 x5 x9 x6 x7 x8 r)
def f30_p1_H (x1 : LL) (x2 : Int) (x3 : LI) (x10 : Int) (x6 : Mm) (x7 : LL) (x8 : Int) : GS := ⟨[(0, (.r (.at (.lst (.list (.int .i64)) x1 false)))), (1, (GI x2)), (2, (GL x3)), (9, (GI x10)), (10, (.r (.at (.ptr 12 0 0)))), (30, (.r (.at (.bool (x10 == 0)))))], [(11, (.mpb pMa pMb x6)), (12, (.var [.cell (.lst (.list (.int .i64)) x7 false), .cell (.int .i64 x8), .cell (.mp 11)]))]⟩
def f30_p1_x : Int → GExit := fun y0 => .normal
def f30_p1_s (x1 : LL) (x2 : Int) (x3 : LI) (x10 : Int) (x6 : Mm) (x7 : LL) (x8 : Int) : Int → GS := fun y0 => ⟨[(0, (.r (.at (.lst (.list (.int .i64)) x1 false)))), (1, (GI x2)), (2, (GL x3)), (9, (GI y0)), (10, (.r (.at (.ptr 12 0 0))))], [(11, (.mpb pMa pMb x6)), (12, (.var [.cell (.lst (.list (.int .i64)) x7 false), .cell (.int .i64 x8), .cell (.mp 11)]))]⟩
def f30_p1_P (x1 : LL) (x2 : Int) (x3 : LI) (x10 : Int) (x6 : Mm) (x7 : LL) (x8 : Int) (r : Int) : Prop := Ex cx f30_M 68 (part Try.f30 1) (f30_p1_H x1 x2 x3 x10 x6 x7 x8) (f30_p1_x r) (f30_p1_s x1 x2 x3 x10 x6 x7 x8 r)
def f30_v : (Int × Int × Int × Int) → G := fun (y0, y1, y2, y3) => (.tup [(.at (.int .i64 y0)), (.at (.int .i64 y1)), (.at (.int .i64 y2)), (.at (.int .i64 y3))])
def f30_k0 : (Int × Int × Int × Int) → List (Nat × Blk) := fun (y0, y1, y2, y3) => []
def f30_k (x1 : LL) (x2 : Int) (x3 : LI) : (Int × Int × Int × Int) → List (Nat × Blk) := fun (y0, y1, y2, y3) => []
def f30_A (x1 : LL) (x2 : Int) (x3 : LI) : List G := [(.r (.at (.lst (.list (.int .i64)) x1 false))), (GI x2), (GL x3)]
def f30_K (x1 : LL) (x2 : Int) (x3 : LI) : List (Nat × Blk) := []
def f30_C (x1 : LL) (x2 : Int) (x3 : LI) (r : Int × Int × Int × Int) : Prop := CallOK cx 30 (f30_A x1 x2 x3) (f30_K x1 x2 x3) [] (f30_v r) (f30_k x1 x2 x3 r)

def f83_M : List Nat := [1, 2]
def f83_p0_H (x2 : LI) (x3 : Int) : GS := ⟨[(1, (GL x2)), (6, (.r (.at .nilp))), (7, (GI x3)), (14, (.r (.at (.bool (x3 == 0)))))], []⟩
def f83_p0_x : Unit → GExit := fun _ => .normal
def f83_p0_s (x2 : LI) (x3 : Int) : Unit → GS := fun _ => ⟨[(6, (.r (.at .nilp))), (7, (GI x3))], []⟩
def f83_p0_P (x2 : LI) (x3 : Int) (r : Unit) : Prop := Ex cx f83_M 23 (part Try.f83 0) (f83_p0_H x2 x3) (f83_p0_x r) (f83_p0_s x2 x3 r)
def f83_p0_1_H (x2 : LI) (x4 : Int) (x5 : Mm) (x6 : LL) (x7 : Int) : GS := ⟨[(1, (GL x2)), (6, (.r (.at (.ptr 2 0 0)))), (7, (GI x4)), (14, (.r (.at (.bool (x4 == 0)))))], [(1, (.mpb pMa pMb x5)), (2, (.var [.cell (.lst (.list (.int .i64)) x6 false), .cell (.int .i64 x7), .cell (.mp 1)]))]⟩
def f83_p0_1_x : Int → GExit := fun y0 => .normal
def f83_p0_1_s (x2 : LI) (x4 : Int) (x5 : Mm) (x6 : LL) (x7 : Int) : Int → GS := fun y0 => ⟨[(6, (.r (.at (.ptr 2 0 0)))), (7, (GI y0))], [(1, (.mpb pMa pMb x5)), (2, (.var [.cell (.lst (.list (.int .i64)) x6 false), .cell (.int .i64 x7), .cell (.mp 1)]))]⟩
def f83_p0_1_P (x2 : LI) (x4 : Int) (x5 : Mm) (x6 : LL) (x7 : Int) (r : Int) : Prop := Ex cx f83_M 23 (part Try.f83 0) (f83_p0_1_H x2 x4 x5 x6 x7) (f83_p0_1_x r) (f83_p0_1_s x2 x4 x5 x6 x7 r)
def f83_v : f83_R → G := fun
 | .c0 y0 => (.tup [(.at .nilp), (.at (.int .i64 y0))])
 | .c1 y0 y1 y2 y3 => (.tup [(.at (.ptr 2 0 0)), (.at (.int .i64 y0))])
def f83_k0 : f83_R → List (Nat × Blk) := fun
 | .c0 y0 => []
 | .c1 y0 y1 y2 y3 => [(1, (.mpb pMa pMb y1)), (2, (.var [.cell (.lst (.list (.int .i64)) y2 false), .cell (.int .i64 y3), .cell (.mp 1)]))]
def f83_k (x1 : LL) (x2 : LI) : f83_R → List (Nat × Blk) := fun
 | .c0 y0 => []
 | .c1 y0 y1 y2 y3 => [(1, (.mpb pMa pMb y1)), (2, (.var [.cell (.lst (.list (.int .i64)) y2 false), .cell (.int .i64 y3), .cell (.mp 1)]))]
def f83_A (x1 : LL) (x2 : LI) : List G := [(.r (.at (.lst (.list (.int .i64)) x1 false))), (GL x2)]
def f83_K (x1 : LL) (x2 : LI) : List (Nat × Blk) := []
def f83_C (x1 : LL) (x2 : LI) (r : f83_R) : Prop := CallOK cx 83 (f83_A x1 x2) (f83_K x1 x2) [] (f83_v r) (f83_k x1 x2 r)

def f84_M : List Nat := []
def f84_p6_H (x2 x6 : Int) (x7 x8 : Int) (x1 : LI) (x11 x9 : Int) (x3 : Mm) (x4 : LL) (x5 : Int) : GS := ⟨[(0, (.r (.at (.ptr 2 0 0)))), (2, (GI x2)), (8, (GI x6)), (9, (.r (.at (.int .u8 x7)))), (10, (GI x8)), (13, (GL x1)), (14, (.r (.at (.int .i64 (LN x1))))), (15, (GI x8)), (39, (.r (.at (.bool ((w64 (x11 - x9)) == x6)))))], [(1, (.mpb pMa pMb x3)), (2, (.var [.cell (.lst (.list (.int .i64)) x4 false), .cell (.int .i64 x5), .cell (.mp 1)]))]⟩
def f84_p6_x : Int → GExit := fun y0 => .normal
def f84_p6_s (x2 x6 : Int) (x7 x8 : Int) (x1 : LI) (x11 x9 : Int) (x3 : Mm) (x4 : LL) (x5 : Int) : Int → GS := fun y0 => ⟨[(0, (.r (.at (.ptr 2 0 0)))), (2, (GI x2)), (8, (GI x6)), (9, (.r (.at (.int .u8 y0)))), (13, (GL x1)), (14, (.r (.at (.int .i64 (LN x1))))), (15, (GI x8))], [(1, (.mpb pMa pMb x3)), (2, (.var [.cell (.lst (.list (.int .i64)) x4 false), .cell (.int .i64 x5), .cell (.mp 1)]))]⟩
def f84_p6_P (x2 x6 : Int) (x7 x8 : Int) (x1 : LI) (x11 x9 : Int) (x3 : Mm) (x4 : LL) (x5 : Int) (r : Int) : Prop := Ex cx f84_M 51 (part Try.f84 6) (f84_p6_H x2 x6 x7 x8 x1 x11 x9 x3 x4 x5) (f84_p6_x r) (f84_p6_s x2 x6 x7 x8 x1 x11 x9 x3 x4 x5 r)
def f84_p5_H (x2 x6 : Int) (x7 x8 : Int) (x11 x9 : Int) (x1 : LI) (x3 : Mm) (x4 : LL) (x5 : Int) : GS := ⟨[(0, (.r (.at (.ptr 2 0 0)))), (2, (GI x2)), (8, (GI x6)), (9, (.r (.at (.int .u8 x7)))), (10, (GI x8)), (12, (.r (.at (.int .i64 (w64 (x11 - x9)))))), (13, (GL x1)), (14, (.r (.at (.int .i64 (LN x1))))), (15, (GI x8)), (32, (.r (.at (.bool (decide ((w64 (x11 - x9)) > x6))))))], [(1, (.mpb pMa pMb x3)), (2, (.var [.cell (.lst (.list (.int .i64)) x4 false), .cell (.int .i64 x5), .cell (.mp 1)]))]⟩
def f84_p5_x : (Int × Int) → GExit := fun (y0, y1) => .normal
def f84_p5_s (x2 x6 : Int) (x7 x8 : Int) (x11 x9 : Int) (x1 : LI) (x3 : Mm) (x4 : LL) (x5 : Int) : (Int × Int) → GS := fun (y0, y1) => ⟨[(0, (.r (.at (.ptr 2 0 0)))), (2, (GI x2)), (8, (GI y0)), (9, (.r (.at (.int .u8 y1)))), (13, (GL x1)), (14, (.r (.at (.int .i64 (LN x1))))), (15, (GI x8))], [(1, (.mpb pMa pMb x3)), (2, (.var [.cell (.lst (.list (.int .i64)) x4 false), .cell (.int .i64 x5), .cell (.mp 1)]))]⟩
def f84_p5_P (x2 x6 : Int) (x7 x8 : Int) (x11 x9 : Int) (x1 : LI) (x3 : Mm) (x4 : LL) (x5 : Int) (r : Int × Int) : Prop := Ex cx f84_M 51 (part Try.f84 5) (f84_p5_H x2 x6 x7 x8 x11 x9 x1 x3 x4 x5) (f84_p5_x r) (f84_p5_s x2 x6 x7 x8 x11 x9 x1 x3 x4 x5 r)
def f84_p1_H (x2 : Int) (x1 : LI) (x3 : Mm) (x4 : LL) (x5 x6 : Int) (x7 x8 : Int) : GS := ⟨[(0, (.r (.at (.ptr 2 0 0)))), (2, (GI x2)), (8, (GI x6)), (9, (.r (.at (.int .u8 x7)))), (13, (GL x1)), (14, (.r (.at (.int .i64 (LN x1))))), (15, (GI x8))], [(1, (.mpb pMa pMb x3)), (2, (.var [.cell (.lst (.list (.int .i64)) x4 false), .cell (.int .i64 x5), .cell (.mp 1)]))]⟩
def f84_p1_x : (Int × Int) → GExit := fun (y0, y1) => (.exit 0)
def f84_p1_s (x2 : Int) (x1 : LI) (x3 : Mm) (x4 : LL) (x5 : Int) : (Int × Int) → GS := fun (y0, y1) => ⟨[(8, (GI y0)), (9, (.r (.at (.int .u8 y1))))], [(1, (.mpb pMa pMb x3)), (2, (.var [.cell (.lst (.list (.int .i64)) x4 false), .cell (.int .i64 x5), .cell (.mp 1)]))]⟩
def f84_p1_P (x2 : Int) (x1 : LI) (x3 : Mm) (x4 : LL) (x5 x6 : Int) (x7 x8 : Int) (r : Int × Int) : Prop := Lp cx f84_M 51 (part Try.f84 1) (f84_p1_H x2 x1 x3 x4 x5 x6 x7 x8) (f84_p1_x r) (f84_p1_s x2 x1 x3 x4 x5 r)
def f84_v : (Int × Bool) → G := fun (y0, y1) => (.tup [(.at (.int .u8 y0)), (.at (.bool y1))])
def f84_k0 : (Int × Bool) → List (Nat × Blk) := fun (y0, y1) => []
def f84_k (x1 : LI) (x2 : Int) (x3 : Mm) (x4 : LL) (x5 : Int) : (Int × Bool) → List (Nat × Blk) := fun (y0, y1) => [(1, (.mpb pMa pMb x3)), (2, (.var [.cell (.lst (.list (.int .i64)) x4 false), .cell (.int .i64 x5), .cell (.mp 1)]))]
def f84_A (x1 : LI) (x2 : Int) (x3 : Mm) (x4 : LL) (x5 : Int) : List G := [(.r (.at (.ptr 2 0 0))), (GL x1), (GI x2)]
def f84_K (x1 : LI) (x2 : Int) (x3 : Mm) (x4 : LL) (x5 : Int) : List (Nat × Blk) := [(1, (.mpb pMa pMb x3)), (2, (.var [.cell (.lst (.list (.int .i64)) x4 false), .cell (.int .i64 x5), .cell (.mp 1)]))]
def f84_C (x1 : LI) (x2 : Int) (x3 : Mm) (x4 : LL) (x5 : Int) (r : Int × Bool) : Prop := CallOK cx 84 (f84_A x1 x2 x3 x4 x5) (f84_K x1 x2 x3 x4 x5) [] (f84_v r) (f84_k x1 x2 x3 x4 x5 r)

def f32_M : List Nat := [1, 2, 22, 23]
def f32_p5_1_H (x2 : LI) (x16 : LL) (x18 : Int) (x1 : LL) (x17 : Int) (x19 : Bool) (x5 : Mm) (x6 : LL) (x7 : Int) : GS := ⟨[(1, (GL x2)), (6, (.r (.at (.ptr 2 0 0)))), (8, (.r (.at (.sl 23 0 (List.length x16))))), (10, (.r (.at (.int .u8 x18)))), (12, (.r (.at (.sl 22 0 (List.length ([] : List Int)))))), (24, (.r (.at (.int .i64 (LN x1))))), (25, (GI x17)), (35, (GB x19))], [(1, (.mpb pMa pMb x5)), (2, (.var [.cell (.lst (.list (.int .i64)) x6 false), .cell (.int .i64 x7), .cell (.mp 1)])), (22, (.gr (.int .i64) 3 (([] : List Int) : List Int) true)), (23, (.gr (.list (.int .i64)) 23 x16 true))]⟩
def f32_p5_1_x : (List Int) → GExit := fun y0 => .normal
def f32_p5_1_s (x2 : LI) (x16 : LL) (x18 : Int) (x1 : LL) (x17 : Int) (x19 : Bool) (x5 : Mm) (x6 : LL) (x7 : Int) : (List Int) → GS := fun y0 => ⟨[(1, (GL x2)), (6, (.r (.at (.ptr 2 0 0)))), (8, (.r (.at (.sl 23 0 (List.length x16))))), (10, (.r (.at (.int .u8 x18)))), (12, (.r (.at (.sl 22 0 (List.length y0))))), (24, (.r (.at (.int .i64 (LN x1))))), (25, (GI x17))], [(1, (.mpb pMa pMb x5)), (2, (.var [.cell (.lst (.list (.int .i64)) x6 false), .cell (.int .i64 x7), .cell (.mp 1)])), (22, (.gr (.int .i64) 3 y0 true)), (23, (.gr (.list (.int .i64)) 23 x16 true))]⟩
def f32_p5_1_P (x2 : LI) (x16 : LL) (x18 : Int) (x1 : LL) (x17 : Int) (x19 : Bool) (x5 : Mm) (x6 : LL) (x7 : Int) (r : (List Int)) : Prop := Ex cx f32_M 62 (part Try.f32 5) (f32_p5_1_H x2 x16 x18 x1 x17 x19 x5 x6 x7) (f32_p5_1_x r) (f32_p5_1_s x2 x16 x18 x1 x17 x19 x5 x6 x7 r)
def f32_p10_1_H (x2 : LI) (x16 : LL) (x18 : Int) (x21 : LI) (x22 : Int) (x1 : LL) (x17 x7 : Int) (x5 : Mm) (x6 : LL) : GS := ⟨[(1, (GL x2)), (6, (.r (.at (.ptr 2 0 0)))), (8, (.r (.at (.sl 23 0 (List.length x16))))), (10, (.r (.at (.int .u8 x18)))), (12, (.r (.at (.sl 22 0 (List.length x21))))), (13, (GI x22)), (24, (.r (.at (.int .i64 (LN x1))))), (25, (GI x17)), (42, (GI x7)), (43, (GI x22)), (50, (.r (.at (.bool ((iAnd .u8 (iShr .u8 x18 x22) 1) == 1)))))], [(1, (.mpb pMa pMb x5)), (2, (.var [.cell (.lst (.list (.int .i64)) x6 false), .cell (.int .i64 x7), .cell (.mp 1)])), (22, (.gr (.int .i64) 3 x21 true)), (23, (.gr (.list (.int .i64)) 23 x16 true))]⟩
def f32_p10_1_x : (List Int) → GExit := fun y0 => .normal
def f32_p10_1_s (x2 : LI) (x16 : LL) (x18 : Int) (x21 : LI) (x22 : Int) (x1 : LL) (x17 x7 : Int) (x5 : Mm) (x6 : LL) : (List Int) → GS := fun y0 => ⟨[(1, (GL x2)), (6, (.r (.at (.ptr 2 0 0)))), (8, (.r (.at (.sl 23 0 (List.length x16))))), (10, (.r (.at (.int .u8 x18)))), (12, (.r (.at (.sl 22 0 (List.length y0))))), (24, (.r (.at (.int .i64 (LN x1))))), (25, (GI x17)), (42, (GI x7)), (43, (GI x22))], [(1, (.mpb pMa pMb x5)), (2, (.var [.cell (.lst (.list (.int .i64)) x6 false), .cell (.int .i64 x7), .cell (.mp 1)])), (22, (.gr (.int .i64) 3 y0 true)), (23, (.gr (.list (.int .i64)) 23 x16 true))]⟩
def f32_p10_1_P (x2 : LI) (x16 : LL) (x18 : Int) (x21 : LI) (x22 : Int) (x1 : LL) (x17 x7 : Int) (x5 : Mm) (x6 : LL) (r : (List Int)) : Prop := Ex cx f32_M 62 (part Try.f32 10) (f32_p10_1_H x2 x16 x18 x21 x22 x1 x17 x7 x5 x6) (f32_p10_1_x r) (f32_p10_1_s x2 x16 x18 x21 x22 x1 x17 x7 x5 x6 r)
def f32_p7_1_H (x2 : LI) (x16 : LL) (x18 : Int) (x1 : LL) (x17 x7 : Int) (x5 : Mm) (x6 : LL) (x22 : Int) (x21 : LI) : GS := ⟨[(1, (GL x2)), (6, (.r (.at (.ptr 2 0 0)))), (8, (.r (.at (.sl 23 0 (List.length x16))))), (10, (.r (.at (.int .u8 x18)))), (12, (.r (.at (.sl 22 0 (List.length x21))))), (24, (.r (.at (.int .i64 (LN x1))))), (25, (GI x17)), (42, (GI x7)), (43, (GI x22))], [(1, (.mpb pMa pMb x5)), (2, (.var [.cell (.lst (.list (.int .i64)) x6 false), .cell (.int .i64 x7), .cell (.mp 1)])), (22, (.gr (.int .i64) 3 x21 true)), (23, (.gr (.list (.int .i64)) 23 x16 true))]⟩
def f32_p7_1_x : (List Int) → GExit := fun y0 => (.exit 2)
def f32_p7_1_s (x2 : LI) (x16 : LL) (x18 : Int) (x1 : LL) (x17 x7 : Int) (x5 : Mm) (x6 : LL) : (List Int) → GS := fun y0 => ⟨[(1, (GL x2)), (6, (.r (.at (.ptr 2 0 0)))), (8, (.r (.at (.sl 23 0 (List.length x16))))), (12, (.r (.at (.sl 22 0 (List.length y0))))), (24, (.r (.at (.int .i64 (LN x1))))), (25, (GI x17))], [(1, (.mpb pMa pMb x5)), (2, (.var [.cell (.lst (.list (.int .i64)) x6 false), .cell (.int .i64 x7), .cell (.mp 1)])), (22, (.gr (.int .i64) 3 y0 true)), (23, (.gr (.list (.int .i64)) 23 x16 true))]⟩
def f32_p7_1_P (x2 : LI) (x16 : LL) (x18 : Int) (x1 : LL) (x17 x7 : Int) (x5 : Mm) (x6 : LL) (x22 : Int) (x21 : LI) (r : (List Int)) : Prop := Lp cx f32_M 62 (part Try.f32 7) (f32_p7_1_H x2 x16 x18 x1 x17 x7 x5 x6 x22 x21) (f32_p7_1_x r) (f32_p7_1_s x2 x16 x18 x1 x17 x7 x5 x6 r)
def f32_p2_H (x2 : LI) (x1 : LL) (x5 : Mm) (x6 : LL) (x7 x17 : Int) (x16 : LL) : GS := ⟨[(1, (GL x2)), (6, (.r (.at (.ptr 2 0 0)))), (8, (.r (.at (.sl 23 0 (List.length x16))))), (24, (.r (.at (.int .i64 (LN x1))))), (25, (GI x17))], [(1, (.mpb pMa pMb x5)), (2, (.var [.cell (.lst (.list (.int .i64)) x6 false), .cell (.int .i64 x7), .cell (.mp 1)])), (23, (.gr (.list (.int .i64)) 23 x16 true))]⟩
def f32_p2_x : (List (List Int)) → GExit := fun y0 => (.exit 0)
def f32_p2_s (x2 : LI) (x1 : LL) (x5 : Mm) (x6 : LL) (x7 : Int) : (List (List Int)) → GS := fun y0 => ⟨[(8, (.r (.at (.sl 23 0 (List.length y0)))))], [(23, (.gr (.list (.int .i64)) 23 y0 true))]⟩
def f32_p2_P (x2 : LI) (x1 : LL) (x5 : Mm) (x6 : LL) (x7 x17 : Int) (x16 : LL) (r : (List (List Int))) : Prop := Lp cx f32_M 62 (part Try.f32 2) (f32_p2_H x2 x1 x5 x6 x7 x17 x16) (f32_p2_x r) (f32_p2_s x2 x1 x5 x6 x7 r)
def f32_v : ((List (List Int)) × Int) → G := fun (y0, y1) => (.tup [(.at (.lst (.list (.int .i64)) y0 false)), (.at (.int .i64 y1))])
def f32_k0 : ((List (List Int)) × Int) → List (Nat × Blk) := fun (y0, y1) => []
def f32_k (x1 : LL) (x2 : LI) : ((List (List Int)) × Int) → List (Nat × Blk) := fun (y0, y1) => []
def f32_A (x1 : LL) (x2 : LI) : List G := [(.r (.at (.lst (.list (.int .i64)) x1 false))), (GL x2)]
def f32_K (x1 : LL) (x2 : LI) : List (Nat × Blk) := []
def f32_C (x1 : LL) (x2 : LI) (r : (List (List Int)) × Int) : Prop := CallOK cx 32 (f32_A x1 x2) (f32_K x1 x2) [] (f32_v r) (f32_k x1 x2 r)

def f104_M : List Nat := []
def f104_v : Bool → G := fun y0 => (GB y0)
def f104_k0 : Bool → List (Nat × Blk) := fun y0 => []
def f104_k (x1 : Int) : Bool → List (Nat × Blk) := fun y0 => []
def f104_A (x1 : Int) : List G := [(GI x1)]
def f104_K (x1 : Int) : List (Nat × Blk) := []
def f104_C (x1 : Int) (r : Bool) : Prop := CallOK cx 104 (f104_A x1) (f104_K x1) [] (f104_v r) (f104_k x1 r)

def f98_M : List Nat := []
def f98_v : Int → G := fun y0 => (GI y0)
def f98_k0 : Int → List (Nat × Blk) := fun y0 => []
def f98_k (x1 x2 : Int) : Int → List (Nat × Blk) := fun y0 => []
def f98_A (x1 x2 : Int) : List G := [(GI x1), (GI x2)]
def f98_K (x1 x2 : Int) : List (Nat × Blk) := []
def f98_C (x1 x2 : Int) (r : Int) : Prop := CallOK cx 98 (f98_A x1 x2) (f98_K x1 x2) [] (f98_v r) (f98_k x1 x2 r)

def f56_M : List Nat := []
def f56_p1_H (x1 : LI) (x2 : Option (List Int)) (x3 : Int) : GS := ⟨[(0, (GL x1)), (1, (.r (.at (.olst (.int .i64) x2)))), (9, (GL x1)), (10, (.r (.at (.int .i64 (LN x1))))), (11, (GI x3))], []⟩
def f56_p1_x : f56_p1_R → GExit := fun
 | .c0 y0 => .ret
 | .c1 => (.exit 0)
def f56_p1_s (x1 : LI) (x2 : Option (List Int)) : f56_p1_R → GS := fun
 | .c0 y0 => ⟨[(4, (GI y0))], []⟩
 | .c1 => ⟨[(0, (GL x1)), (1, (.r (.at (.olst (.int .i64) x2))))], []⟩
def f56_p1_P (x1 : LI) (x2 : Option (List Int)) (x3 : Int) (r : f56_p1_R) : Prop := Lp cx f56_M 36 (part Try.f56 1) (f56_p1_H x1 x2 x3) (f56_p1_x r) (f56_p1_s x1 x2 r)
def f56_v : Int → G := fun y0 => (GI y0)
def f56_k0 : Int → List (Nat × Blk) := fun y0 => []
def f56_k (x1 : LI) (x2 : Option (List Int)) : Int → List (Nat × Blk) := fun y0 => []
def f56_A (x1 : LI) (x2 : Option (List Int)) : List G := [(GL x1), (.r (.at (.olst (.int .i64) x2)))]
def f56_K (x1 : LI) (x2 : Option (List Int)) : List (Nat × Blk) := []
def f56_C (x1 : LI) (x2 : Option (List Int)) (r : Int) : Prop := CallOK cx 56 (f56_A x1 x2) (f56_K x1 x2) [] (f56_v r) (f56_k x1 x2 r)

def f34_M : List Nat := [1, 2, 24]
def f34_p9_1_H (x1 : LL) (x2 : LI) (x8 : Option (List Int)) (x9 : Int) (x17 : LI) (x18 : Int) (x19 : Bool) (x20 : Int) (x5 : Mm) (x6 : LL) (x7 : Int) : GS := ⟨[(0, (.r (.at (.lst (.list (.int .i64)) x1 false)))), (1, (GL x2)), (6, (.r (.at (.ptr 2 0 0)))), (8, (.r (.at (.olst (.int .i64) x8)))), (9, (GI x9)), (10, (.r (.at (.sl 24 0 (List.length x17))))), (11, (.r (.at (.int .u8 x18)))), (12, (GB x19)), (13, (GI x20)), (34, (.r (.at (.int .i64 (LN x1))))), (35, (GI x20)), (42, (.r (.at (.bool ((iAnd .i64 (iShr .i64 x9 x20) 1) == 1)))))], [(1, (.mpb pMa pMb x5)), (2, (.var [.cell (.lst (.list (.int .i64)) x6 false), .cell (.int .i64 x7), .cell (.mp 1)])), (24, (.gr (.int .i64) 3 x17 true))]⟩
def f34_p9_1_x : (Int × Bool × (List Int)) → GExit := fun (y0, y1, y2) => .normal
def f34_p9_1_s (x1 : LL) (x2 : LI) (x8 : Option (List Int)) (x9 : Int) (x17 : LI) (x18 : Int) (x19 : Bool) (x20 : Int) (x5 : Mm) (x6 : LL) (x7 : Int) : (Int × Bool × (List Int)) → GS := fun (y0, y1, y2) => ⟨[(0, (.r (.at (.lst (.list (.int .i64)) x1 false)))), (1, (GL x2)), (6, (.r (.at (.ptr 2 0 0)))), (8, (.r (.at (.olst (.int .i64) x8)))), (9, (GI x9)), (10, (.r (.at (.sl 24 0 (List.length y2))))), (11, (.r (.at (.int .u8 y0)))), (12, (GB y1)), (34, (.r (.at (.int .i64 (LN x1))))), (35, (GI x20))], [(1, (.mpb pMa pMb x5)), (2, (.var [.cell (.lst (.list (.int .i64)) x6 false), .cell (.int .i64 x7), .cell (.mp 1)])), (24, (.gr (.int .i64) 3 y2 true))]⟩
def f34_p9_1_P (x1 : LL) (x2 : LI) (x8 : Option (List Int)) (x9 : Int) (x17 : LI) (x18 : Int) (x19 : Bool) (x20 : Int) (x5 : Mm) (x6 : LL) (x7 : Int) (r : Int × Bool × (List Int)) : Prop := Ex cx f34_M 106 (part Try.f34 9) (f34_p9_1_H x1 x2 x8 x9 x17 x18 x19 x20 x5 x6 x7) (f34_p9_1_x r) (f34_p9_1_s x1 x2 x8 x9 x17 x18 x19 x20 x5 x6 x7 r)
def f34_p6_H (x1 : LL) (x2 : LI) (x8 : Option (List Int)) (x9 : Int) (x5 : Mm) (x6 : LL) (x7 x18 : Int) (x19 : Bool) (x20 : Int) (x17 : LI) : GS := ⟨[(0, (.r (.at (.lst (.list (.int .i64)) x1 false)))), (1, (GL x2)), (6, (.r (.at (.ptr 2 0 0)))), (8, (.r (.at (.olst (.int .i64) x8)))), (9, (GI x9)), (10, (.r (.at (.sl 24 0 (List.length x17))))), (11, (.r (.at (.int .u8 x18)))), (12, (GB x19)), (34, (.r (.at (.int .i64 (LN x1))))), (35, (GI x20))], [(1, (.mpb pMa pMb x5)), (2, (.var [.cell (.lst (.list (.int .i64)) x6 false), .cell (.int .i64 x7), .cell (.mp 1)])), (24, (.gr (.int .i64) 3 x17 true))]⟩
def f34_p6_x : (Int × Bool × (List Int)) → GExit := fun (y0, y1, y2) => (.exit 2)
def f34_p6_s (x1 : LL) (x2 : LI) (x8 : Option (List Int)) (x9 : Int) (x5 : Mm) (x6 : LL) (x7 : Int) : (Int × Bool × (List Int)) → GS := fun (y0, y1, y2) => ⟨[(0, (.r (.at (.lst (.list (.int .i64)) x1 false)))), (1, (GL x2)), (6, (.r (.at (.ptr 2 0 0)))), (8, (.r (.at (.olst (.int .i64) x8)))), (9, (GI x9)), (10, (.r (.at (.sl 24 0 (List.length y2))))), (11, (.r (.at (.int .u8 y0)))), (12, (GB y1))], [(1, (.mpb pMa pMb x5)), (2, (.var [.cell (.lst (.list (.int .i64)) x6 false), .cell (.int .i64 x7), .cell (.mp 1)])), (24, (.gr (.int .i64) 3 y2 true))]⟩
def f34_p6_P (x1 : LL) (x2 : LI) (x8 : Option (List Int)) (x9 : Int) (x5 : Mm) (x6 : LL) (x7 x18 : Int) (x19 : Bool) (x20 : Int) (x17 : LI) (r : Int × Bool × (List Int)) : Prop := Lp cx f34_M 106 (part Try.f34 6) (f34_p6_H x1 x2 x8 x9 x5 x6 x7 x18 x19 x20 x17) (f34_p6_x r) (f34_p6_s x1 x2 x8 x9 x5 x6 x7 r)
def f34_p11_H (x1 : LL) (x2 : LI) (x8 : Option (List Int)) (x9 : Int) (x28 : LI) (x27 : Bool) (x5 : Mm) (x6 : LL) (x7 x29 x30 : Int) : GS := ⟨[(0, (.r (.at (.lst (.list (.int .i64)) x1 false)))), (1, (GL x2)), (6, (.r (.at (.ptr 2 0 0)))), (8, (.r (.at (.olst (.int .i64) x8)))), (9, (GI x9)), (10, (.r (.at (.sl 24 0 (List.length x28))))), (11, (.r (.at (.int .u8 x29)))), (12, (GB x27)), (16, (GI x30))], [(1, (.mpb pMa pMb x5)), (2, (.var [.cell (.lst (.list (.int .i64)) x6 false), .cell (.int .i64 x7), .cell (.mp 1)])), (24, (.gr (.int .i64) 3 x28 true))]⟩
def f34_p11_x : Int → GExit := fun y0 => (.exit 4)
def f34_p11_s (x1 : LL) (x2 : LI) (x8 : Option (List Int)) (x9 : Int) (x28 : LI) (x27 : Bool) (x5 : Mm) (x6 : LL) (x7 : Int) : Int → GS := fun y0 => ⟨[(0, (.r (.at (.lst (.list (.int .i64)) x1 false)))), (1, (GL x2)), (6, (.r (.at (.ptr 2 0 0)))), (8, (.r (.at (.olst (.int .i64) x8)))), (9, (GI x9)), (10, (.r (.at (.sl 24 0 (List.length x28))))), (12, (GB x27)), (16, (GI y0))], [(1, (.mpb pMa pMb x5)), (2, (.var [.cell (.lst (.list (.int .i64)) x6 false), .cell (.int .i64 x7), .cell (.mp 1)])), (24, (.gr (.int .i64) 3 x28 true))]⟩
def f34_p11_P (x1 : LL) (x2 : LI) (x8 : Option (List Int)) (x9 : Int) (x28 : LI) (x27 : Bool) (x5 : Mm) (x6 : LL) (x7 x29 x30 : Int) (r : Int) : Prop := Lp cx f34_M 106 (part Try.f34 11) (f34_p11_H x1 x2 x8 x9 x28 x27 x5 x6 x7 x29 x30) (f34_p11_x r) (f34_p11_s x1 x2 x8 x9 x28 x27 x5 x6 x7 r)
def f34_r21_H (x1 : LL) (x2 : LI) (x8 : Option (List Int)) (x9 : Int) (x28 : LI) (x27 : Bool) (x31 : Int) (x5 : Mm) (x6 : LL) (x7 : Int) : GS := ⟨[(0, (.r (.at (.lst (.list (.int .i64)) x1 false)))), (1, (GL x2)), (6, (.r (.at (.ptr 2 0 0)))), (8, (.r (.at (.olst (.int .i64) x8)))), (9, (GI x9)), (10, (.r (.at (.sl 24 0 (List.length x28))))), (12, (GB x27)), (16, (GI x31))], [(1, (.mpb pMa pMb x5)), (2, (.var [.cell (.lst (.list (.int .i64)) x6 false), .cell (.int .i64 x7), .cell (.mp 1)])), (24, (.gr (.int .i64) 3 x28 true))]⟩
def f34_r21_x : Bool → GExit := fun y0 => .normal
def f34_r21_s (x1 : LL) (x2 : LI) (x8 : Option (List Int)) (x9 : Int) (x28 : LI) (x27 : Bool) (x31 : Int) (x5 : Mm) (x6 : LL) (x7 : Int) : Bool → GS := fun y0 => ⟨[(0, (.r (.at (.lst (.list (.int .i64)) x1 false)))), (1, (GL x2)), (6, (.r (.at (.ptr 2 0 0)))), (8, (.r (.at (.olst (.int .i64) x8)))), (9, (GI x9)), (10, (.r (.at (.sl 24 0 (List.length x28))))), (101, (GB y0))], [(1, (.mpb pMa pMb x5)), (2, (.var [.cell (.lst (.list (.int .i64)) x6 false), .cell (.int .i64 x7), .cell (.mp 1)])), (24, (.gr (.int .i64) 3 x28 true))]⟩
def f34_r21_P (x1 : LL) (x2 : LI) (x8 : Option (List Int)) (x9 : Int) (x28 : LI) (x27 : Bool) (x31 : Int) (x5 : Mm) (x6 : LL) (x7 : Int) (r : Bool) : Prop := Ex cx f34_M 106 (rgnF 21 Try.f34) (f34_r21_H x1 x2 x8 x9 x28 x27 x31 x5 x6 x7) (f34_r21_x r) (f34_r21_s x1 x2 x8 x9 x28 x27 x31 x5 x6 x7 r)
def f34_p14_H (x1 : LL) (x2 : LI) (x8 : Option (List Int)) (x9 : Int) (x28 : LI) (x33 : Bool) (x5 : Mm) (x6 : LL) (x7 : Int) : GS := ⟨[(0, (.r (.at (.lst (.list (.int .i64)) x1 false)))), (1, (GL x2)), (6, (.r (.at (.ptr 2 0 0)))), (8, (.r (.at (.olst (.int .i64) x8)))), (9, (GI x9)), (10, (.r (.at (.sl 24 0 (List.length x28))))), (101, (GB x33))], [(1, (.mpb pMa pMb x5)), (2, (.var [.cell (.lst (.list (.int .i64)) x6 false), .cell (.int .i64 x7), .cell (.mp 1)])), (24, (.gr (.int .i64) 3 x28 true))]⟩
def f34_p14_x : (Option (List Int)) → GExit := fun y0 => .normal
def f34_p14_s (x1 : LL) (x2 : LI) (x8 : Option (List Int)) (x9 : Int) (x28 : LI) (x33 : Bool) (x5 : Mm) (x6 : LL) (x7 : Int) : (Option (List Int)) → GS := fun y0 => ⟨[(0, (.r (.at (.lst (.list (.int .i64)) x1 false)))), (1, (GL x2)), (6, (.r (.at (.ptr 2 0 0)))), (8, (.r (.at (.olst (.int .i64) y0)))), (9, (GI x9))], [(1, (.mpb pMa pMb x5)), (2, (.var [.cell (.lst (.list (.int .i64)) x6 false), .cell (.int .i64 x7), .cell (.mp 1)]))]⟩
def f34_p14_P (x1 : LL) (x2 : LI) (x8 : Option (List Int)) (x9 : Int) (x28 : LI) (x33 : Bool) (x5 : Mm) (x6 : LL) (x7 : Int) (r : (Option (List Int))) : Prop := Ex cx f34_M 106 (part Try.f34 14) (f34_p14_H x1 x2 x8 x9 x28 x33 x5 x6 x7) (f34_p14_x r) (f34_p14_s x1 x2 x8 x9 x28 x33 x5 x6 x7 r)
def f34_p2_H (x1 : LL) (x2 : LI) (x5 : Mm) (x6 : LL) (x7 : Int) (x8 : Option (List Int)) (x9 : Int) : GS := ⟨[(0, (.r (.at (.lst (.list (.int .i64)) x1 false)))), (1, (GL x2)), (6, (.r (.at (.ptr 2 0 0)))), (8, (.r (.at (.olst (.int .i64) x8)))), (9, (GI x9))], [(1, (.mpb pMa pMb x5)), (2, (.var [.cell (.lst (.list (.int .i64)) x6 false), .cell (.int .i64 x7), .cell (.mp 1)]))]⟩
def f34_p2_x : (Option (List Int)) → GExit := fun y0 => (.exit 0)
def f34_p2_s (x1 : LL) (x2 : LI) (x5 : Mm) (x6 : LL) (x7 : Int) : (Option (List Int)) → GS := fun y0 => ⟨[(8, (.r (.at (.olst (.int .i64) y0))))], []⟩
def f34_p2_P (x1 : LL) (x2 : LI) (x5 : Mm) (x6 : LL) (x7 : Int) (x8 : Option (List Int)) (x9 : Int) (r : (Option (List Int))) : Prop := Lp cx f34_M 106 (part Try.f34 2) (f34_p2_H x1 x2 x5 x6 x7 x8 x9) (f34_p2_x r) (f34_p2_s x1 x2 x5 x6 x7 r)
def f34_v : ((List Int) × Int) → G := fun (y0, y1) => (.tup [(.at (.lst (.int .i64) y0 false)), (.at (.int .i64 y1))])
def f34_k0 : ((List Int) × Int) → List (Nat × Blk) := fun (y0, y1) => []
def f34_k (x1 : LL) (x2 : LI) : ((List Int) × Int) → List (Nat × Blk) := fun (y0, y1) => []
def f34_A (x1 : LL) (x2 : LI) : List G := [(.r (.at (.lst (.list (.int .i64)) x1 false))), (GL x2)]
def f34_K (x1 : LL) (x2 : LI) : List (Nat × Blk) := []
def f34_C (x1 : LL) (x2 : LI) (r : (List Int) × Int) : Prop := CallOK cx 34 (f34_A x1 x2) (f34_K x1 x2) [] (f34_v r) (f34_k x1 x2 r)

def f89_M : List Nat := []
def f89_v : (Bool × (List Int)) → G := fun (y0, y1) => (GB y0)
def f89_k0 : (Bool × (List Int)) → List (Nat × Blk) := fun (y0, y1) => [(25, (.gr (.int .i64) 3 y1 true))]
def f89_k (x1 x2 : Nat) (x3 : Int) (x4 : LI) : (Bool × (List Int)) → List (Nat × Blk) := fun (y0, y1) => [(25, (.gr (.int .i64) 3 y1 true))]
def f89_A (x1 x2 : Nat) (x3 : Int) (x4 : LI) : List G := [(.r (.at (.ptg 25 x1))), (.r (.at (.ptg 25 x2))), (GI x3)]
def f89_K (x1 x2 : Nat) (x3 : Int) (x4 : LI) : List (Nat × Blk) := [(25, (.gr (.int .i64) 3 x4 true))]
def f89_C (x1 x2 : Nat) (x3 : Int) (x4 : LI) (r : Bool × (List Int)) : Prop := CallOK cx 89 (f89_A x1 x2 x3 x4) (f89_K x1 x2 x3 x4) [] (f89_v r) (f89_k x1 x2 x3 x4 r)

def f89_1_M : List Nat := []
def f89_1_v : (Bool × (List Int)) → G := fun (y0, y1) => (GB y0)
def f89_1_k0 : (Bool × (List Int)) → List (Nat × Blk) := fun (y0, y1) => [(25, (.gr (.int .i64) 3 y1 true))]
def f89_1_k (x1 : Nat) (x2 : Int) (x3 : LI) (x4 : Int) : (Bool × (List Int)) → List (Nat × Blk) := fun (y0, y1) => [(25, (.gr (.int .i64) 3 y1 true)), (26, (.var [.cell (.int .i64 x4)]))]
def f89_1_A (x1 : Nat) (x2 : Int) (x3 : LI) (x4 : Int) : List G := [(.r (.at (.ptr 26 0 0))), (.r (.at (.ptg 25 x1))), (GI x2)]
def f89_1_K (x1 : Nat) (x2 : Int) (x3 : LI) (x4 : Int) : List (Nat × Blk) := [(25, (.gr (.int .i64) 3 x3 true)), (26, (.var [.cell (.int .i64 x4)]))]
def f89_1_C (x1 : Nat) (x2 : Int) (x3 : LI) (x4 : Int) (r : Bool × (List Int)) : Prop := CallOK cx 89 (f89_1_A x1 x2 x3 x4) (f89_1_K x1 x2 x3 x4) [] (f89_1_v r) (f89_1_k x1 x2 x3 x4 r)

def f88_M : List Nat := [26]
def f88_p8_3_H (x1 x2 : Nat) (x7 : LI) (x101 : Bool) (x102 x103 : Int) (x8 : Mm) (x4 : LL) (x5 : Int) (x100 : LI) : GS := ⟨[(0, (.r (.at (.ptr 2 0 0)))), (1, (.r (.at (.sl 25 x1 x2)))), (2, (.r (.at (.fn 89)))), (7, (.r (.at (.ptr 26 0 0)))), (8, (GL x7)), (9, (GB x101)), (10, (GI x102)), (11, (GI x103)), (12, (.r (.at (.ptr 26 0 0)))), (17, (GL x7)), (18, (.r (.at (.int .i64 (LN x7))))), (19, (GI x102)), (25, (.r (.at (.bool (decide (x103 ≥ 0))))))], [(1, (.mpb pMa pMb x8)), (2, (.var [.cell (.lst (.list (.int .i64)) x4 false), .cell (.int .i64 x5), .cell (.mp 1)])), (25, (.gr (.int .i64) 3 x100 true)), (26, (.var [.cell (.int .i64 0)]))]⟩
def f88_p8_3_x : f88_p8_3_R → GExit := fun
 | .c0 => .normal
 | .c1 => .normal
def f88_p8_3_s (x1 x2 : Nat) (x7 : LI) (x101 : Bool) (x102 x103 : Int) (x8 : Mm) (x4 : LL) (x5 : Int) (x100 : LI) : f88_p8_3_R → GS := fun
 | .c0 => ⟨[(0, (.r (.at (.ptr 2 0 0)))), (1, (.r (.at (.sl 25 x1 x2)))), (2, (.r (.at (.fn 89)))), (7, (.r (.at (.ptr 26 0 0)))), (8, (GL x7)), (9, (GB x101)), (10, (GI x102)), (11, (GI x103)), (12, (.r (.at (.ptg 25 (x1 + (Int.toNat x103)))))), (17, (GL x7)), (18, (.r (.at (.int .i64 (LN x7))))), (19, (GI x102))], [(1, (.mpb pMa pMb x8)), (2, (.var [.cell (.lst (.list (.int .i64)) x4 false), .cell (.int .i64 x5), .cell (.mp 1)])), (25, (.gr (.int .i64) 3 x100 true)), (26, (.var [.cell (.int .i64 0)]))]⟩
 | .c1 => ⟨[(0, (.r (.at (.ptr 2 0 0)))), (1, (.r (.at (.sl 25 x1 x2)))), (2, (.r (.at (.fn 89)))), (7, (.r (.at (.ptr 26 0 0)))), (8, (GL x7)), (9, (GB x101)), (10, (GI x102)), (11, (GI x103)), (12, (.r (.at (.ptr 26 0 0)))), (17, (GL x7)), (18, (.r (.at (.int .i64 (LN x7))))), (19, (GI x102))], [(1, (.mpb pMa pMb x8)), (2, (.var [.cell (.lst (.list (.int .i64)) x4 false), .cell (.int .i64 x5), .cell (.mp 1)])), (25, (.gr (.int .i64) 3 x100 true)), (26, (.var [.cell (.int .i64 0)]))]⟩
def f88_p8_3_P (x1 x2 : Nat) (x7 : LI) (x101 : Bool) (x102 x103 : Int) (x8 : Mm) (x4 : LL) (x5 : Int) (x100 : LI) (r : f88_p8_3_R) : Prop := Ex cx f88_M 63 (part Try.f88 8) (f88_p8_3_H x1 x2 x7 x101 x102 x103 x8 x4 x5 x100) (f88_p8_3_x r) (f88_p8_3_s x1 x2 x7 x101 x102 x103 x8 x4 x5 x100 r)
def f88_p13_9_H (x1 x2 : Nat) (x7 : LI) (x113 : Bool) (x102 x103 x114 : Int) (x118 : Bool) (x8 : Mm) (x4 : LL) (x5 : Int) (x119 : LI) : GS := ⟨[(0, (.r (.at (.ptr 2 0 0)))), (1, (.r (.at (.sl 25 x1 x2)))), (2, (.r (.at (.fn 89)))), (7, (.r (.at (.ptr 26 0 0)))), (8, (GL x7)), (9, (GB x113)), (10, (GI x102)), (11, (GI x103)), (12, (.r (.at (.ptg 25 (x1 + (Int.toNat x103)))))), (17, (GL x7)), (18, (.r (.at (.int .i64 (LN x7))))), (19, (GI x102)), (30, (.r (.at (.int .i64 ((x2 : Nat) : Int))))), (31, (GI x114)), (59, (GB x118))], [(1, (.mpb pMa pMb x8)), (2, (.var [.cell (.lst (.list (.int .i64)) x4 false), .cell (.int .i64 x5), .cell (.mp 1)])), (25, (.gr (.int .i64) 3 x119 true)), (26, (.var [.cell (.int .i64 0)]))]⟩
def f88_p13_9_x : Bool → GExit := fun y0 => .normal
def f88_p13_9_s (x1 x2 : Nat) (x7 : LI) (x113 : Bool) (x102 x103 x114 : Int) (x118 : Bool) (x8 : Mm) (x4 : LL) (x5 : Int) (x119 : LI) : Bool → GS := fun y0 => ⟨[(0, (.r (.at (.ptr 2 0 0)))), (1, (.r (.at (.sl 25 x1 x2)))), (2, (.r (.at (.fn 89)))), (7, (.r (.at (.ptr 26 0 0)))), (8, (GL x7)), (9, (GB y0)), (10, (GI x102)), (11, (GI x103)), (12, (.r (.at (.ptg 25 (x1 + (Int.toNat x103)))))), (17, (GL x7)), (18, (.r (.at (.int .i64 (LN x7))))), (19, (GI x102)), (30, (.r (.at (.int .i64 ((x2 : Nat) : Int))))), (31, (GI x114))], [(1, (.mpb pMa pMb x8)), (2, (.var [.cell (.lst (.list (.int .i64)) x4 false), .cell (.int .i64 x5), .cell (.mp 1)])), (25, (.gr (.int .i64) 3 x119 true)), (26, (.var [.cell (.int .i64 0)]))]⟩
def f88_p13_9_P (x1 x2 : Nat) (x7 : LI) (x113 : Bool) (x102 x103 x114 : Int) (x118 : Bool) (x8 : Mm) (x4 : LL) (x5 : Int) (x119 : LI) (r : Bool) : Prop := Ex cx f88_M 63 (part Try.f88 13) (f88_p13_9_H x1 x2 x7 x113 x102 x103 x114 x118 x8 x4 x5 x119) (f88_p13_9_x r) (f88_p13_9_s x1 x2 x7 x113 x102 x103 x114 x118 x8 x4 x5 x119 r)
def f88_p10_4_H (x1 x2 : Nat) (x7 : LI) (x102 x103 : Int) (x8 : Mm) (x4 : LL) (x5 : Int) (x113 : Bool) (x114 : Int) (x112 : LI) : GS := ⟨[(0, (.r (.at (.ptr 2 0 0)))), (1, (.r (.at (.sl 25 x1 x2)))), (2, (.r (.at (.fn 89)))), (7, (.r (.at (.ptr 26 0 0)))), (8, (GL x7)), (9, (GB x113)), (10, (GI x102)), (11, (GI x103)), (12, (.r (.at (.ptg 25 (x1 + (Int.toNat x103)))))), (17, (GL x7)), (18, (.r (.at (.int .i64 (LN x7))))), (19, (GI x102)), (30, (.r (.at (.int .i64 ((x2 : Nat) : Int))))), (31, (GI x114))], [(1, (.mpb pMa pMb x8)), (2, (.var [.cell (.lst (.list (.int .i64)) x4 false), .cell (.int .i64 x5), .cell (.mp 1)])), (25, (.gr (.int .i64) 3 x112 true)), (26, (.var [.cell (.int .i64 0)]))]⟩
def f88_p10_4_x : (Bool × (List Int)) → GExit := fun (y0, y1) => (.exit 4)
def f88_p10_4_s (x1 x2 : Nat) (x7 : LI) (x102 x103 : Int) (x8 : Mm) (x4 : LL) (x5 : Int) : (Bool × (List Int)) → GS := fun (y0, y1) => ⟨[(0, (.r (.at (.ptr 2 0 0)))), (1, (.r (.at (.sl 25 x1 x2)))), (2, (.r (.at (.fn 89)))), (7, (.r (.at (.ptr 26 0 0)))), (8, (GL x7)), (9, (GB y0)), (17, (GL x7)), (18, (.r (.at (.int .i64 (LN x7))))), (19, (GI x102))], [(1, (.mpb pMa pMb x8)), (2, (.var [.cell (.lst (.list (.int .i64)) x4 false), .cell (.int .i64 x5), .cell (.mp 1)])), (25, (.gr (.int .i64) 3 y1 true)), (26, (.var [.cell (.int .i64 0)]))]⟩
def f88_p10_4_P (x1 x2 : Nat) (x7 : LI) (x102 x103 : Int) (x8 : Mm) (x4 : LL) (x5 : Int) (x113 : Bool) (x114 : Int) (x112 : LI) (r : Bool × (List Int)) : Prop := Lp cx f88_M 63 (part Try.f88 10) (f88_p10_4_H x1 x2 x7 x102 x103 x8 x4 x5 x113 x114 x112) (f88_p10_4_x r) (f88_p10_4_s x1 x2 x7 x102 x103 x8 x4 x5 r)
def f88_p13_11_H (x1 x2 : Nat) (x7 : LI) (x132 : Bool) (x102 x103 x133 : Int) (x137 : Bool) (x8 : Mm) (x4 : LL) (x5 : Int) (x138 : LI) : GS := ⟨[(0, (.r (.at (.ptr 2 0 0)))), (1, (.r (.at (.sl 25 x1 x2)))), (2, (.r (.at (.fn 89)))), (7, (.r (.at (.ptr 26 0 0)))), (8, (GL x7)), (9, (GB x132)), (10, (GI x102)), (11, (GI x103)), (12, (.r (.at (.ptr 26 0 0)))), (17, (GL x7)), (18, (.r (.at (.int .i64 (LN x7))))), (19, (GI x102)), (30, (.r (.at (.int .i64 ((x2 : Nat) : Int))))), (31, (GI x133)), (59, (GB x137))], [(1, (.mpb pMa pMb x8)), (2, (.var [.cell (.lst (.list (.int .i64)) x4 false), .cell (.int .i64 x5), .cell (.mp 1)])), (25, (.gr (.int .i64) 3 x138 true)), (26, (.var [.cell (.int .i64 0)]))]⟩
def f88_p13_11_x : Bool → GExit := fun y0 => .normal
def f88_p13_11_s (x1 x2 : Nat) (x7 : LI) (x132 : Bool) (x102 x103 x133 : Int) (x137 : Bool) (x8 : Mm) (x4 : LL) (x5 : Int) (x138 : LI) : Bool → GS := fun y0 => ⟨[(0, (.r (.at (.ptr 2 0 0)))), (1, (.r (.at (.sl 25 x1 x2)))), (2, (.r (.at (.fn 89)))), (7, (.r (.at (.ptr 26 0 0)))), (8, (GL x7)), (9, (GB y0)), (10, (GI x102)), (11, (GI x103)), (12, (.r (.at (.ptr 26 0 0)))), (17, (GL x7)), (18, (.r (.at (.int .i64 (LN x7))))), (19, (GI x102)), (30, (.r (.at (.int .i64 ((x2 : Nat) : Int))))), (31, (GI x133))], [(1, (.mpb pMa pMb x8)), (2, (.var [.cell (.lst (.list (.int .i64)) x4 false), .cell (.int .i64 x5), .cell (.mp 1)])), (25, (.gr (.int .i64) 3 x138 true)), (26, (.var [.cell (.int .i64 0)]))]⟩
def f88_p13_11_P (x1 x2 : Nat) (x7 : LI) (x132 : Bool) (x102 x103 x133 : Int) (x137 : Bool) (x8 : Mm) (x4 : LL) (x5 : Int) (x138 : LI) (r : Bool) : Prop := Ex cx f88_M 63 (part Try.f88 13) (f88_p13_11_H x1 x2 x7 x132 x102 x103 x133 x137 x8 x4 x5 x138) (f88_p13_11_x r) (f88_p13_11_s x1 x2 x7 x132 x102 x103 x133 x137 x8 x4 x5 x138 r)
def f88_p10_5_H (x1 x2 : Nat) (x7 : LI) (x102 x103 : Int) (x8 : Mm) (x4 : LL) (x5 : Int) (x132 : Bool) (x133 : Int) (x131 : LI) : GS := ⟨[(0, (.r (.at (.ptr 2 0 0)))), (1, (.r (.at (.sl 25 x1 x2)))), (2, (.r (.at (.fn 89)))), (7, (.r (.at (.ptr 26 0 0)))), (8, (GL x7)), (9, (GB x132)), (10, (GI x102)), (11, (GI x103)), (12, (.r (.at (.ptr 26 0 0)))), (17, (GL x7)), (18, (.r (.at (.int .i64 (LN x7))))), (19, (GI x102)), (30, (.r (.at (.int .i64 ((x2 : Nat) : Int))))), (31, (GI x133))], [(1, (.mpb pMa pMb x8)), (2, (.var [.cell (.lst (.list (.int .i64)) x4 false), .cell (.int .i64 x5), .cell (.mp 1)])), (25, (.gr (.int .i64) 3 x131 true)), (26, (.var [.cell (.int .i64 0)]))]⟩
def f88_p10_5_x : (Bool × (List Int)) → GExit := fun (y0, y1) => (.exit 4)
def f88_p10_5_s (x1 x2 : Nat) (x7 : LI) (x102 x103 : Int) (x8 : Mm) (x4 : LL) (x5 : Int) : (Bool × (List Int)) → GS := fun (y0, y1) => ⟨[(0, (.r (.at (.ptr 2 0 0)))), (1, (.r (.at (.sl 25 x1 x2)))), (2, (.r (.at (.fn 89)))), (7, (.r (.at (.ptr 26 0 0)))), (8, (GL x7)), (9, (GB y0)), (17, (GL x7)), (18, (.r (.at (.int .i64 (LN x7))))), (19, (GI x102))], [(1, (.mpb pMa pMb x8)), (2, (.var [.cell (.lst (.list (.int .i64)) x4 false), .cell (.int .i64 x5), .cell (.mp 1)])), (25, (.gr (.int .i64) 3 y1 true)), (26, (.var [.cell (.int .i64 0)]))]⟩
def f88_p10_5_P (x1 x2 : Nat) (x7 : LI) (x102 x103 : Int) (x8 : Mm) (x4 : LL) (x5 : Int) (x132 : Bool) (x133 : Int) (x131 : LI) (r : Bool × (List Int)) : Prop := Lp cx f88_M 63 (part Try.f88 10) (f88_p10_5_H x1 x2 x7 x102 x103 x8 x4 x5 x132 x133 x131) (f88_p10_5_x r) (f88_p10_5_s x1 x2 x7 x102 x103 x8 x4 x5 r)
def f88_p5_1_H (x1 x2 : Nat) (x7 : LI) (x8 : Mm) (x4 : LL) (x5 : Int) (x101 : Bool) (x102 : Int) (x100 : LI) : GS := ⟨[(0, (.r (.at (.ptr 2 0 0)))), (1, (.r (.at (.sl 25 x1 x2)))), (2, (.r (.at (.fn 89)))), (7, (.r (.at (.ptr 26 0 0)))), (8, (GL x7)), (9, (GB x101)), (17, (GL x7)), (18, (.r (.at (.int .i64 (LN x7))))), (19, (GI x102))], [(1, (.mpb pMa pMb x8)), (2, (.var [.cell (.lst (.list (.int .i64)) x4 false), .cell (.int .i64 x5), .cell (.mp 1)])), (25, (.gr (.int .i64) 3 x100 true)), (26, (.var [.cell (.int .i64 0)]))]⟩
def f88_p5_1_x : (Bool × (List Int)) → GExit := fun (y0, y1) => (.exit 2)
def f88_p5_1_s (x1 x2 : Nat) (x7 : LI) (x8 : Mm) (x4 : LL) (x5 : Int) : (Bool × (List Int)) → GS := fun (y0, y1) => ⟨[(0, (.r (.at (.ptr 2 0 0)))), (1, (.r (.at (.sl 25 x1 x2)))), (2, (.r (.at (.fn 89)))), (7, (.r (.at (.ptr 26 0 0)))), (8, (GL x7)), (9, (GB y0))], [(1, (.mpb pMa pMb x8)), (2, (.var [.cell (.lst (.list (.int .i64)) x4 false), .cell (.int .i64 x5), .cell (.mp 1)])), (25, (.gr (.int .i64) 3 y1 true)), (26, (.var [.cell (.int .i64 0)]))]⟩
def f88_p5_1_P (x1 x2 : Nat) (x7 : LI) (x8 : Mm) (x4 : LL) (x5 : Int) (x101 : Bool) (x102 : Int) (x100 : LI) (r : Bool × (List Int)) : Prop := Lp cx f88_M 63 (part Try.f88 5) (f88_p5_1_H x1 x2 x7 x8 x4 x5 x101 x102 x100) (f88_p5_1_x r) (f88_p5_1_s x1 x2 x7 x8 x4 x5 r)
def f88_p1_18_H (x1 x2 : Nat) (x7 : LI) (x8 : Mm) (x4 : LL) (x5 : Int) (x77 : Bool) (x76 : LI) : GS := ⟨[(0, (.r (.at (.ptr 2 0 0)))), (1, (.r (.at (.sl 25 x1 x2)))), (2, (.r (.at (.fn 89)))), (7, (.r (.at (.ptr 26 0 0)))), (8, (GL x7)), (9, (GB x77))], [(1, (.mpb pMa pMb x8)), (2, (.var [.cell (.lst (.list (.int .i64)) x4 false), .cell (.int .i64 x5), .cell (.mp 1)])), (25, (.gr (.int .i64) 3 x76 true)), (26, (.var [.cell (.int .i64 0)]))]⟩
def f88_p1_18_x : (List Int) → GExit := fun y0 => (.exit 0)
def f88_p1_18_s (x1 x2 : Nat) (x7 : LI) (x8 : Mm) (x4 : LL) (x5 : Int) : (List Int) → GS := fun y0 => ⟨[(1, (.r (.at (.sl 25 x1 x2))))], [(1, (.mpb pMa pMb x8)), (2, (.var [.cell (.lst (.list (.int .i64)) x4 false), .cell (.int .i64 x5), .cell (.mp 1)])), (25, (.gr (.int .i64) 3 y0 true))]⟩
def f88_p1_18_P (x1 x2 : Nat) (x7 : LI) (x8 : Mm) (x4 : LL) (x5 : Int) (x77 : Bool) (x76 : LI) (r : (List Int)) : Prop := Lp cx f88_M 63 (part Try.f88 1) (f88_p1_18_H x1 x2 x7 x8 x4 x5 x77 x76) (f88_p1_18_x r) (f88_p1_18_s x1 x2 x7 x8 x4 x5 r)
def f88_v : (Nat × Nat × Mm × (List Int)) → G := fun (y0, y1, y2, y3) => (.r (.at (.sl 25 y0 y1)))
def f88_k0 : (Nat × Nat × Mm × (List Int)) → List (Nat × Blk) := fun (y0, y1, y2, y3) => [(1, (.mpb pMa pMb y2)), (25, (.gr (.int .i64) 3 y3 true))]
def f88_k (x1 x2 : Nat) (x3 : Mm) (x4 : LL) (x5 : Int) (x6 : LI) : (Nat × Nat × Mm × (List Int)) → List (Nat × Blk) := fun (y0, y1, y2, y3) => [(1, (.mpb pMa pMb y2)), (25, (.gr (.int .i64) 3 y3 true)), (2, (.var [.cell (.lst (.list (.int .i64)) x4 false), .cell (.int .i64 x5), .cell (.mp 1)]))]
def f88_A (x1 x2 : Nat) (x3 : Mm) (x4 : LL) (x5 : Int) (x6 : LI) : List G := [(.r (.at (.ptr 2 0 0))), (.r (.at (.sl 25 x1 x2))), (.r (.at (.fn 89)))]
def f88_K (x1 x2 : Nat) (x3 : Mm) (x4 : LL) (x5 : Int) (x6 : LI) : List (Nat × Blk) := [(1, (.mpb pMa pMb x3)), (2, (.var [.cell (.lst (.list (.int .i64)) x4 false), .cell (.int .i64 x5), .cell (.mp 1)])), (25, (.gr (.int .i64) 3 x6 true))]
def f88_C (x1 x2 : Nat) (x3 : Mm) (x4 : LL) (x5 : Int) (x6 : LI) (r : Nat × Nat × Mm × (List Int)) : Prop := CallOK cx 88 (f88_A x1 x2 x3 x4 x5 x6) (f88_K x1 x2 x3 x4 x5 x6) [] (f88_v r) (f88_k x1 x2 x3 x4 x5 x6 r)

def f39_M : List Nat := [1, 2, 25]
def f39_v : ((List Int) × Int) → G := fun (y0, y1) => (.tup [(.at (.lst (.int .i64) y0 false)), (.at (.int .i64 y1))])
def f39_k0 : ((List Int) × Int) → List (Nat × Blk) := fun (y0, y1) => []
def f39_k (x1 : LL) : ((List Int) × Int) → List (Nat × Blk) := fun (y0, y1) => []
def f39_A (x1 : LL) : List G := [(.r (.at (.lst (.list (.int .i64)) x1 false)))]
def f39_K (x1 : LL) : List (Nat × Blk) := []
def f39_C (x1 : LL) (r : (List Int) × Int) : Prop := CallOK cx 39 (f39_A x1) (f39_K x1) [] (f39_v r) (f39_k x1 r)

def f64_M : List Nat := []
def f64_v : (List (List Int)) → G := fun y0 => (.r (.at (.lst (.list (.int .i64)) y0 false)))
def f64_k0 : (List (List Int)) → List (Nat × Blk) := fun y0 => []
def f64_k : (List (List Int)) → List (Nat × Blk) := fun y0 => []
def f64_A : List G := []
def f64_K : List (Nat × Blk) := []
def f64_C (r : (List (List Int))) : Prop := CallOK cx 64 (f64_A) (f64_K) [] (f64_v r) (f64_k r)

def f91_M : List Nat := []
def f91_v : (Bool × (List Int)) → G := fun (y0, y1) => (GB y0)
def f91_k0 : (Bool × (List Int)) → List (Nat × Blk) := fun (y0, y1) => [(27, (.gr (.int .i64) 3 y1 true))]
def f91_k (x1 x2 : Nat) (x3 : Int) (x4 : LI) : (Bool × (List Int)) → List (Nat × Blk) := fun (y0, y1) => [(27, (.gr (.int .i64) 3 y1 true))]
def f91_A (x1 x2 : Nat) (x3 : Int) (x4 : LI) : List G := [(.r (.at (.ptg 27 x1))), (.r (.at (.ptg 27 x2))), (GI x3)]
def f91_K (x1 x2 : Nat) (x3 : Int) (x4 : LI) : List (Nat × Blk) := [(27, (.gr (.int .i64) 3 x4 true))]
def f91_C (x1 x2 : Nat) (x3 : Int) (x4 : LI) (r : Bool × (List Int)) : Prop := CallOK cx 91 (f91_A x1 x2 x3 x4) (f91_K x1 x2 x3 x4) [] (f91_v r) (f91_k x1 x2 x3 x4 r)

def f91_1_M : List Nat := []
def f91_1_v : (Bool × Int) → G := fun (y0, y1) => (GB y0)
def f91_1_k0 : (Bool × Int) → List (Nat × Blk) := fun (y0, y1) => [(28, (.var [.cell (.int .i64 y1)]))]
def f91_1_k (x1 : Nat) (x2 : Int) (x3 : LI) (x4 : Int) : (Bool × Int) → List (Nat × Blk) := fun (y0, y1) => [(28, (.var [.cell (.int .i64 y1)])), (27, (.gr (.int .i64) 3 x3 true))]
def f91_1_A (x1 : Nat) (x2 : Int) (x3 : LI) (x4 : Int) : List G := [(.r (.at (.ptr 28 0 0))), (.r (.at (.ptg 27 x1))), (GI x2)]
def f91_1_K (x1 : Nat) (x2 : Int) (x3 : LI) (x4 : Int) : List (Nat × Blk) := [(27, (.gr (.int .i64) 3 x3 true)), (28, (.var [.cell (.int .i64 x4)]))]
def f91_1_C (x1 : Nat) (x2 : Int) (x3 : LI) (x4 : Int) (r : Bool × Int) : Prop := CallOK cx 91 (f91_1_A x1 x2 x3 x4) (f91_1_K x1 x2 x3 x4) [] (f91_1_v r) (f91_1_k x1 x2 x3 x4 r)

def f88_1_M : List Nat := [28]
def f88_1_p8_5_H (x1 x2 : Nat) (x7 : LI) (x188 : Bool) (x189 x191 : Int) (x8 : Mm) (x4 : LL) (x5 : Int) (x187 : LI) (x190 : Int) : GS := ⟨[(0, (.r (.at (.ptr 2 0 0)))), (1, (.r (.at (.sl 27 x1 x2)))), (2, (.r (.at (.fn 91)))), (7, (.r (.at (.ptr 28 0 0)))), (8, (GL x7)), (9, (GB x188)), (10, (GI x189)), (11, (GI x191)), (12, (.r (.at (.ptr 28 0 0)))), (17, (GL x7)), (18, (.r (.at (.int .i64 (LN x7))))), (19, (GI x189)), (25, (.r (.at (.bool (decide (x191 ≥ 0))))))], [(1, (.mpb pMa pMb x8)), (2, (.var [.cell (.lst (.list (.int .i64)) x4 false), .cell (.int .i64 x5), .cell (.mp 1)])), (27, (.gr (.int .i64) 3 x187 true)), (28, (.var [.cell (.int .i64 x190)]))]⟩
def f88_1_p8_5_x : f88_1_p8_5_R → GExit := fun
 | .c0 => .normal
 | .c1 => .normal
def f88_1_p8_5_s (x1 x2 : Nat) (x7 : LI) (x188 : Bool) (x189 x191 : Int) (x8 : Mm) (x4 : LL) (x5 : Int) (x187 : LI) (x190 : Int) : f88_1_p8_5_R → GS := fun
 | .c0 => ⟨[(0, (.r (.at (.ptr 2 0 0)))), (1, (.r (.at (.sl 27 x1 x2)))), (2, (.r (.at (.fn 91)))), (7, (.r (.at (.ptr 28 0 0)))), (8, (GL x7)), (9, (GB x188)), (10, (GI x189)), (11, (GI x191)), (12, (.r (.at (.ptg 27 (x1 + (Int.toNat x191)))))), (17, (GL x7)), (18, (.r (.at (.int .i64 (LN x7))))), (19, (GI x189))], [(1, (.mpb pMa pMb x8)), (2, (.var [.cell (.lst (.list (.int .i64)) x4 false), .cell (.int .i64 x5), .cell (.mp 1)])), (27, (.gr (.int .i64) 3 x187 true)), (28, (.var [.cell (.int .i64 x190)]))]⟩
 | .c1 => ⟨[(0, (.r (.at (.ptr 2 0 0)))), (1, (.r (.at (.sl 27 x1 x2)))), (2, (.r (.at (.fn 91)))), (7, (.r (.at (.ptr 28 0 0)))), (8, (GL x7)), (9, (GB x188)), (10, (GI x189)), (11, (GI x191)), (12, (.r (.at (.ptr 28 0 0)))), (17, (GL x7)), (18, (.r (.at (.int .i64 (LN x7))))), (19, (GI x189))], [(1, (.mpb pMa pMb x8)), (2, (.var [.cell (.lst (.list (.int .i64)) x4 false), .cell (.int .i64 x5), .cell (.mp 1)])), (27, (.gr (.int .i64) 3 x187 true)), (28, (.var [.cell (.int .i64 x190)]))]⟩
def f88_1_p8_5_P (x1 x2 : Nat) (x7 : LI) (x188 : Bool) (x189 x191 : Int) (x8 : Mm) (x4 : LL) (x5 : Int) (x187 : LI) (x190 : Int) (r : f88_1_p8_5_R) : Prop := Ex cx f88_1_M 63 (part Try.f88 8) (f88_1_p8_5_H x1 x2 x7 x188 x189 x191 x8 x4 x5 x187 x190) (f88_1_p8_5_x r) (f88_1_p8_5_s x1 x2 x7 x188 x189 x191 x8 x4 x5 x187 x190 r)
def f88_1_p13_17_H (x1 x2 : Nat) (x7 : LI) (x201 : Bool) (x189 x191 x202 : Int) (x206 : Bool) (x8 : Mm) (x4 : LL) (x5 : Int) (x207 : LI) (x190 : Int) : GS := ⟨[(0, (.r (.at (.ptr 2 0 0)))), (1, (.r (.at (.sl 27 x1 x2)))), (2, (.r (.at (.fn 91)))), (7, (.r (.at (.ptr 28 0 0)))), (8, (GL x7)), (9, (GB x201)), (10, (GI x189)), (11, (GI x191)), (12, (.r (.at (.ptg 27 (x1 + (Int.toNat x191)))))), (17, (GL x7)), (18, (.r (.at (.int .i64 (LN x7))))), (19, (GI x189)), (30, (.r (.at (.int .i64 ((x2 : Nat) : Int))))), (31, (GI x202)), (59, (GB x206))], [(1, (.mpb pMa pMb x8)), (2, (.var [.cell (.lst (.list (.int .i64)) x4 false), .cell (.int .i64 x5), .cell (.mp 1)])), (27, (.gr (.int .i64) 3 x207 true)), (28, (.var [.cell (.int .i64 x190)]))]⟩
def f88_1_p13_17_x : Bool → GExit := fun y0 => .normal
def f88_1_p13_17_s (x1 x2 : Nat) (x7 : LI) (x201 : Bool) (x189 x191 x202 : Int) (x206 : Bool) (x8 : Mm) (x4 : LL) (x5 : Int) (x207 : LI) (x190 : Int) : Bool → GS := fun y0 => ⟨[(0, (.r (.at (.ptr 2 0 0)))), (1, (.r (.at (.sl 27 x1 x2)))), (2, (.r (.at (.fn 91)))), (7, (.r (.at (.ptr 28 0 0)))), (8, (GL x7)), (9, (GB y0)), (10, (GI x189)), (11, (GI x191)), (12, (.r (.at (.ptg 27 (x1 + (Int.toNat x191)))))), (17, (GL x7)), (18, (.r (.at (.int .i64 (LN x7))))), (19, (GI x189)), (30, (.r (.at (.int .i64 ((x2 : Nat) : Int))))), (31, (GI x202))], [(1, (.mpb pMa pMb x8)), (2, (.var [.cell (.lst (.list (.int .i64)) x4 false), .cell (.int .i64 x5), .cell (.mp 1)])), (27, (.gr (.int .i64) 3 x207 true)), (28, (.var [.cell (.int .i64 x190)]))]⟩
def f88_1_p13_17_P (x1 x2 : Nat) (x7 : LI) (x201 : Bool) (x189 x191 x202 : Int) (x206 : Bool) (x8 : Mm) (x4 : LL) (x5 : Int) (x207 : LI) (x190 : Int) (r : Bool) : Prop := Ex cx f88_1_M 63 (part Try.f88 13) (f88_1_p13_17_H x1 x2 x7 x201 x189 x191 x202 x206 x8 x4 x5 x207 x190) (f88_1_p13_17_x r) (f88_1_p13_17_s x1 x2 x7 x201 x189 x191 x202 x206 x8 x4 x5 x207 x190 r)
def f88_1_p10_8_H (x1 x2 : Nat) (x7 : LI) (x189 x191 : Int) (x8 : Mm) (x4 : LL) (x5 x190 : Int) (x201 : Bool) (x202 : Int) (x200 : LI) : GS := ⟨[(0, (.r (.at (.ptr 2 0 0)))), (1, (.r (.at (.sl 27 x1 x2)))), (2, (.r (.at (.fn 91)))), (7, (.r (.at (.ptr 28 0 0)))), (8, (GL x7)), (9, (GB x201)), (10, (GI x189)), (11, (GI x191)), (12, (.r (.at (.ptg 27 (x1 + (Int.toNat x191)))))), (17, (GL x7)), (18, (.r (.at (.int .i64 (LN x7))))), (19, (GI x189)), (30, (.r (.at (.int .i64 ((x2 : Nat) : Int))))), (31, (GI x202))], [(1, (.mpb pMa pMb x8)), (2, (.var [.cell (.lst (.list (.int .i64)) x4 false), .cell (.int .i64 x5), .cell (.mp 1)])), (27, (.gr (.int .i64) 3 x200 true)), (28, (.var [.cell (.int .i64 x190)]))]⟩
def f88_1_p10_8_x : (Bool × (List Int)) → GExit := fun (y0, y1) => (.exit 4)
def f88_1_p10_8_s (x1 x2 : Nat) (x7 : LI) (x189 x191 : Int) (x8 : Mm) (x4 : LL) (x5 x190 : Int) : (Bool × (List Int)) → GS := fun (y0, y1) => ⟨[(0, (.r (.at (.ptr 2 0 0)))), (1, (.r (.at (.sl 27 x1 x2)))), (2, (.r (.at (.fn 91)))), (7, (.r (.at (.ptr 28 0 0)))), (8, (GL x7)), (9, (GB y0)), (17, (GL x7)), (18, (.r (.at (.int .i64 (LN x7))))), (19, (GI x189))], [(1, (.mpb pMa pMb x8)), (2, (.var [.cell (.lst (.list (.int .i64)) x4 false), .cell (.int .i64 x5), .cell (.mp 1)])), (27, (.gr (.int .i64) 3 y1 true)), (28, (.var [.cell (.int .i64 x190)]))]⟩
def f88_1_p10_8_P (x1 x2 : Nat) (x7 : LI) (x189 x191 : Int) (x8 : Mm) (x4 : LL) (x5 x190 : Int) (x201 : Bool) (x202 : Int) (x200 : LI) (r : Bool × (List Int)) : Prop := Lp cx f88_1_M 63 (part Try.f88 10) (f88_1_p10_8_H x1 x2 x7 x189 x191 x8 x4 x5 x190 x201 x202 x200) (f88_1_p10_8_x r) (f88_1_p10_8_s x1 x2 x7 x189 x191 x8 x4 x5 x190 r)
def f88_1_p13_19_H (x1 x2 : Nat) (x7 : LI) (x219 : Bool) (x189 x191 x220 : Int) (x225 : Bool) (x8 : Mm) (x4 : LL) (x5 : Int) (x187 : LI) (x226 : Int) : GS := ⟨[(0, (.r (.at (.ptr 2 0 0)))), (1, (.r (.at (.sl 27 x1 x2)))), (2, (.r (.at (.fn 91)))), (7, (.r (.at (.ptr 28 0 0)))), (8, (GL x7)), (9, (GB x219)), (10, (GI x189)), (11, (GI x191)), (12, (.r (.at (.ptr 28 0 0)))), (17, (GL x7)), (18, (.r (.at (.int .i64 (LN x7))))), (19, (GI x189)), (30, (.r (.at (.int .i64 ((x2 : Nat) : Int))))), (31, (GI x220)), (59, (GB x225))], [(1, (.mpb pMa pMb x8)), (2, (.var [.cell (.lst (.list (.int .i64)) x4 false), .cell (.int .i64 x5), .cell (.mp 1)])), (27, (.gr (.int .i64) 3 x187 true)), (28, (.var [.cell (.int .i64 x226)]))]⟩
def f88_1_p13_19_x : Bool → GExit := fun y0 => .normal
def f88_1_p13_19_s (x1 x2 : Nat) (x7 : LI) (x219 : Bool) (x189 x191 x220 : Int) (x225 : Bool) (x8 : Mm) (x4 : LL) (x5 : Int) (x187 : LI) (x226 : Int) : Bool → GS := fun y0 => ⟨[(0, (.r (.at (.ptr 2 0 0)))), (1, (.r (.at (.sl 27 x1 x2)))), (2, (.r (.at (.fn 91)))), (7, (.r (.at (.ptr 28 0 0)))), (8, (GL x7)), (9, (GB y0)), (10, (GI x189)), (11, (GI x191)), (12, (.r (.at (.ptr 28 0 0)))), (17, (GL x7)), (18, (.r (.at (.int .i64 (LN x7))))), (19, (GI x189)), (30, (.r (.at (.int .i64 ((x2 : Nat) : Int))))), (31, (GI x220))], [(1, (.mpb pMa pMb x8)), (2, (.var [.cell (.lst (.list (.int .i64)) x4 false), .cell (.int .i64 x5), .cell (.mp 1)])), (27, (.gr (.int .i64) 3 x187 true)), (28, (.var [.cell (.int .i64 x226)]))]⟩
def f88_1_p13_19_P (x1 x2 : Nat) (x7 : LI) (x219 : Bool) (x189 x191 x220 : Int) (x225 : Bool) (x8 : Mm) (x4 : LL) (x5 : Int) (x187 : LI) (x226 : Int) (r : Bool) : Prop := Ex cx f88_1_M 63 (part Try.f88 13) (f88_1_p13_19_H x1 x2 x7 x219 x189 x191 x220 x225 x8 x4 x5 x187 x226) (f88_1_p13_19_x r) (f88_1_p13_19_s x1 x2 x7 x219 x189 x191 x220 x225 x8 x4 x5 x187 x226 r)
def f88_1_p10_9_H (x1 x2 : Nat) (x7 : LI) (x189 x191 : Int) (x8 : Mm) (x4 : LL) (x5 : Int) (x187 : LI) (x219 : Bool) (x220 x221 : Int) : GS := ⟨[(0, (.r (.at (.ptr 2 0 0)))), (1, (.r (.at (.sl 27 x1 x2)))), (2, (.r (.at (.fn 91)))), (7, (.r (.at (.ptr 28 0 0)))), (8, (GL x7)), (9, (GB x219)), (10, (GI x189)), (11, (GI x191)), (12, (.r (.at (.ptr 28 0 0)))), (17, (GL x7)), (18, (.r (.at (.int .i64 (LN x7))))), (19, (GI x189)), (30, (.r (.at (.int .i64 ((x2 : Nat) : Int))))), (31, (GI x220))], [(1, (.mpb pMa pMb x8)), (2, (.var [.cell (.lst (.list (.int .i64)) x4 false), .cell (.int .i64 x5), .cell (.mp 1)])), (27, (.gr (.int .i64) 3 x187 true)), (28, (.var [.cell (.int .i64 x221)]))]⟩
def f88_1_p10_9_x : (Bool × Int) → GExit := fun (y0, y1) => (.exit 4)
def f88_1_p10_9_s (x1 x2 : Nat) (x7 : LI) (x189 x191 : Int) (x8 : Mm) (x4 : LL) (x5 : Int) (x187 : LI) : (Bool × Int) → GS := fun (y0, y1) => ⟨[(0, (.r (.at (.ptr 2 0 0)))), (1, (.r (.at (.sl 27 x1 x2)))), (2, (.r (.at (.fn 91)))), (7, (.r (.at (.ptr 28 0 0)))), (8, (GL x7)), (9, (GB y0)), (17, (GL x7)), (18, (.r (.at (.int .i64 (LN x7))))), (19, (GI x189))], [(1, (.mpb pMa pMb x8)), (2, (.var [.cell (.lst (.list (.int .i64)) x4 false), .cell (.int .i64 x5), .cell (.mp 1)])), (27, (.gr (.int .i64) 3 x187 true)), (28, (.var [.cell (.int .i64 y1)]))]⟩
def f88_1_p10_9_P (x1 x2 : Nat) (x7 : LI) (x189 x191 : Int) (x8 : Mm) (x4 : LL) (x5 : Int) (x187 : LI) (x219 : Bool) (x220 x221 : Int) (r : Bool × Int) : Prop := Lp cx f88_1_M 63 (part Try.f88 10) (f88_1_p10_9_H x1 x2 x7 x189 x191 x8 x4 x5 x187 x219 x220 x221) (f88_1_p10_9_x r) (f88_1_p10_9_s x1 x2 x7 x189 x191 x8 x4 x5 x187 r)
def f88_1_p5_1_H (x1 x2 : Nat) (x7 : LI) (x8 : Mm) (x4 : LL) (x5 : Int) (x188 : Bool) (x189 : Int) (x187 : LI) (x190 : Int) : GS := ⟨[(0, (.r (.at (.ptr 2 0 0)))), (1, (.r (.at (.sl 27 x1 x2)))), (2, (.r (.at (.fn 91)))), (7, (.r (.at (.ptr 28 0 0)))), (8, (GL x7)), (9, (GB x188)), (17, (GL x7)), (18, (.r (.at (.int .i64 (LN x7))))), (19, (GI x189))], [(1, (.mpb pMa pMb x8)), (2, (.var [.cell (.lst (.list (.int .i64)) x4 false), .cell (.int .i64 x5), .cell (.mp 1)])), (27, (.gr (.int .i64) 3 x187 true)), (28, (.var [.cell (.int .i64 x190)]))]⟩
def f88_1_p5_1_x : (Bool × (List Int) × Int) → GExit := fun (y0, y1, y2) => (.exit 2)
def f88_1_p5_1_s (x1 x2 : Nat) (x7 : LI) (x8 : Mm) (x4 : LL) (x5 : Int) : (Bool × (List Int) × Int) → GS := fun (y0, y1, y2) => ⟨[(0, (.r (.at (.ptr 2 0 0)))), (1, (.r (.at (.sl 27 x1 x2)))), (2, (.r (.at (.fn 91)))), (7, (.r (.at (.ptr 28 0 0)))), (8, (GL x7)), (9, (GB y0))], [(1, (.mpb pMa pMb x8)), (2, (.var [.cell (.lst (.list (.int .i64)) x4 false), .cell (.int .i64 x5), .cell (.mp 1)])), (27, (.gr (.int .i64) 3 y1 true)), (28, (.var [.cell (.int .i64 y2)]))]⟩
def f88_1_p5_1_P (x1 x2 : Nat) (x7 : LI) (x8 : Mm) (x4 : LL) (x5 : Int) (x188 : Bool) (x189 : Int) (x187 : LI) (x190 : Int) (r : Bool × (List Int) × Int) : Prop := Lp cx f88_1_M 63 (part Try.f88 5) (f88_1_p5_1_H x1 x2 x7 x8 x4 x5 x188 x189 x187 x190) (f88_1_p5_1_x r) (f88_1_p5_1_s x1 x2 x7 x8 x4 x5 r)
def f88_1_p1_30_H (x1 x2 : Nat) (x7 : LI) (x8 : Mm) (x4 : LL) (x5 : Int) (x121 : Bool) (x120 : LI) (x122 : Int) : GS := ⟨[(0, (.r (.at (.ptr 2 0 0)))), (1, (.r (.at (.sl 27 x1 x2)))), (2, (.r (.at (.fn 91)))), (7, (.r (.at (.ptr 28 0 0)))), (8, (GL x7)), (9, (GB x121))], [(1, (.mpb pMa pMb x8)), (2, (.var [.cell (.lst (.list (.int .i64)) x4 false), .cell (.int .i64 x5), .cell (.mp 1)])), (27, (.gr (.int .i64) 3 x120 true)), (28, (.var [.cell (.int .i64 x122)]))]⟩
def f88_1_p1_30_x : (List Int) → GExit := fun y0 => (.exit 0)
def f88_1_p1_30_s (x1 x2 : Nat) (x7 : LI) (x8 : Mm) (x4 : LL) (x5 : Int) : (List Int) → GS := fun y0 => ⟨[(1, (.r (.at (.sl 27 x1 x2))))], [(1, (.mpb pMa pMb x8)), (2, (.var [.cell (.lst (.list (.int .i64)) x4 false), .cell (.int .i64 x5), .cell (.mp 1)])), (27, (.gr (.int .i64) 3 y0 true))]⟩
def f88_1_p1_30_P (x1 x2 : Nat) (x7 : LI) (x8 : Mm) (x4 : LL) (x5 : Int) (x121 : Bool) (x120 : LI) (x122 : Int) (r : (List Int)) : Prop := Lp cx f88_1_M 63 (part Try.f88 1) (f88_1_p1_30_H x1 x2 x7 x8 x4 x5 x121 x120 x122) (f88_1_p1_30_x r) (f88_1_p1_30_s x1 x2 x7 x8 x4 x5 r)
def f88_1_v : (Nat × Nat × Mm × (List Int)) → G := fun (y0, y1, y2, y3) => (.r (.at (.sl 27 y0 y1)))
def f88_1_k0 : (Nat × Nat × Mm × (List Int)) → List (Nat × Blk) := fun (y0, y1, y2, y3) => [(1, (.mpb pMa pMb y2)), (27, (.gr (.int .i64) 3 y3 true))]
def f88_1_k (x1 x2 : Nat) (x3 : Mm) (x4 : LL) (x5 : Int) (x6 : LI) : (Nat × Nat × Mm × (List Int)) → List (Nat × Blk) := fun (y0, y1, y2, y3) => [(1, (.mpb pMa pMb y2)), (27, (.gr (.int .i64) 3 y3 true)), (2, (.var [.cell (.lst (.list (.int .i64)) x4 false), .cell (.int .i64 x5), .cell (.mp 1)]))]
def f88_1_A (x1 x2 : Nat) (x3 : Mm) (x4 : LL) (x5 : Int) (x6 : LI) : List G := [(.r (.at (.ptr 2 0 0))), (.r (.at (.sl 27 x1 x2))), (.r (.at (.fn 91)))]
def f88_1_K (x1 x2 : Nat) (x3 : Mm) (x4 : LL) (x5 : Int) (x6 : LI) : List (Nat × Blk) := [(1, (.mpb pMa pMb x3)), (2, (.var [.cell (.lst (.list (.int .i64)) x4 false), .cell (.int .i64 x5), .cell (.mp 1)])), (27, (.gr (.int .i64) 3 x6 true))]
def f88_1_C (x1 x2 : Nat) (x3 : Mm) (x4 : LL) (x5 : Int) (x6 : LI) (r : Nat × Nat × Mm × (List Int)) : Prop := CallOK cx 88 (f88_1_A x1 x2 x3 x4 x5 x6) (f88_1_K x1 x2 x3 x4 x5 x6) [] (f88_1_v r) (f88_1_k x1 x2 x3 x4 x5 x6 r)

def f41_M : List Nat := [1, 2, 27]
def f41_p5_1_H (x1 : LL) (x6 x15 x16 : Int) (x7 : LI) (x8 : Mm) (x5 : LL) (x14 : LI) : GS := ⟨[(0, (.r (.at (.lst (.list (.int .i64)) x1 false)))), (4, (.r (.at (.ptr 2 0 0)))), (6, (.r (.at (.sl 27 0 (Int.toNat x6))))), (7, (GI x15)), (8, (GI x16)), (23, (GL x7)), (24, (.r (.at (.int .i64 (LN x7))))), (25, (GI x15)), (31, (.r (.at (.bool (decide (x16 ≥ 0))))))], [(1, (.mpb pMa pMb x8)), (2, (.var [.cell (.lst (.list (.int .i64)) x5 false), .cell (.int .i64 x6), .cell (.mp 1)])), (27, (.gr (.int .i64) 3 x14 true))]⟩
def f41_p5_1_x : (List Int) → GExit := fun y0 => .normal
def f41_p5_1_s (x1 : LL) (x6 x15 x16 : Int) (x7 : LI) (x8 : Mm) (x5 : LL) (x14 : LI) : (List Int) → GS := fun y0 => ⟨[(0, (.r (.at (.lst (.list (.int .i64)) x1 false)))), (4, (.r (.at (.ptr 2 0 0)))), (6, (.r (.at (.sl 27 0 (Int.toNat x6))))), (23, (GL x7)), (24, (.r (.at (.int .i64 (LN x7))))), (25, (GI x15))], [(1, (.mpb pMa pMb x8)), (2, (.var [.cell (.lst (.list (.int .i64)) x5 false), .cell (.int .i64 x6), .cell (.mp 1)])), (27, (.gr (.int .i64) 3 y0 true))]⟩
def f41_p5_1_P (x1 : LL) (x6 x15 x16 : Int) (x7 : LI) (x8 : Mm) (x5 : LL) (x14 : LI) (r : (List Int)) : Prop := Ex cx f41_M 46 (part Try.f41 5) (f41_p5_1_H x1 x6 x15 x16 x7 x8 x5 x14) (f41_p5_1_x r) (f41_p5_1_s x1 x6 x15 x16 x7 x8 x5 x14 r)
def f41_p2_H (x1 : LL) (x6 : Int) (x7 : LI) (x8 : Mm) (x5 : LL) (x15 : Int) (x14 : LI) : GS := ⟨[(0, (.r (.at (.lst (.list (.int .i64)) x1 false)))), (4, (.r (.at (.ptr 2 0 0)))), (6, (.r (.at (.sl 27 0 (Int.toNat x6))))), (23, (GL x7)), (24, (.r (.at (.int .i64 (LN x7))))), (25, (GI x15))], [(1, (.mpb pMa pMb x8)), (2, (.var [.cell (.lst (.list (.int .i64)) x5 false), .cell (.int .i64 x6), .cell (.mp 1)])), (27, (.gr (.int .i64) 3 x14 true))]⟩
def f41_p2_x : (List Int) → GExit := fun y0 => (.exit 0)
def f41_p2_s (x1 : LL) (x6 : Int) (x7 : LI) (x8 : Mm) (x5 : LL) : (List Int) → GS := fun y0 => ⟨[(4, (.r (.at (.ptr 2 0 0)))), (6, (.r (.at (.sl 27 0 (Int.toNat x6)))))], [(1, (.mpb pMa pMb x8)), (2, (.var [.cell (.lst (.list (.int .i64)) x5 false), .cell (.int .i64 x6), .cell (.mp 1)])), (27, (.gr (.int .i64) 3 y0 true))]⟩
def f41_p2_P (x1 : LL) (x6 : Int) (x7 : LI) (x8 : Mm) (x5 : LL) (x15 : Int) (x14 : LI) (r : (List Int)) : Prop := Lp cx f41_M 46 (part Try.f41 2) (f41_p2_H x1 x6 x7 x8 x5 x15 x14) (f41_p2_x r) (f41_p2_s x1 x6 x7 x8 x5 r)
def f41_v : ((List Int) × Int) → G := fun (y0, y1) => (.tup [(.at (.lst (.int .i64) y0 false)), (.at (.int .i64 y1))])
def f41_k0 : ((List Int) × Int) → List (Nat × Blk) := fun (y0, y1) => []
def f41_k (x1 : LL) : ((List Int) × Int) → List (Nat × Blk) := fun (y0, y1) => []
def f41_A (x1 : LL) : List G := [(.r (.at (.lst (.list (.int .i64)) x1 false)))]
def f41_K (x1 : LL) : List (Nat × Blk) := []
def f41_C (x1 : LL) (r : (List Int) × Int) : Prop := CallOK cx 41 (f41_A x1) (f41_K x1) [] (f41_v r) (f41_k x1 r)

def f21_M : List Nat := [1, 2]
def f21_p4_H (x2 : LI) (x5 : Mm) (x6 : LL) (x7 x9 : Int) (x10 x11 : Int) : GS := ⟨[(6, (.r (.at (.ptr 2 0 0)))), (8, (.r (.at (.int .u8 x9)))), (9, (GI x10)), (31, (GL x2)), (32, (.r (.at (.int .i64 (LN x2))))), (33, (GI x11))], [(1, (.mpb pMa pMb x5)), (2, (.var [.cell (.lst (.list (.int .i64)) x6 false), .cell (.int .i64 x7), .cell (.mp 1)]))]⟩
def f21_p4_x : f21_p4_R → GExit := fun
 | .c0 y0 => .ret
 | .c1 y0 => (.exit 1)
def f21_p4_s (x2 : LI) (x5 : Mm) (x6 : LL) (x7 : Int) : f21_p4_R → GS := fun
 | .c0 y0 => ⟨[(4, (.r (.at (.int .i64 0)))), (5, (GI y0))], []⟩
 | .c1 y0 => ⟨[(9, (GI y0))], []⟩
def f21_p4_P (x2 : LI) (x5 : Mm) (x6 : LL) (x7 x9 : Int) (x10 x11 : Int) (r : f21_p4_R) : Prop := Lp cx f21_M 63 (part Try.f21 4) (f21_p4_H x2 x5 x6 x7 x9 x10 x11) (f21_p4_x r) (f21_p4_s x2 x5 x6 x7 r)
def f21_v : (Int × Int) → G := fun (y0, y1) => (.tup [(.at (.int .i64 y0)), (.at (.int .i64 y1))])
def f21_k0 : (Int × Int) → List (Nat × Blk) := fun (y0, y1) => []
def f21_k (x1 : LL) (x2 : LI) : (Int × Int) → List (Nat × Blk) := fun (y0, y1) => []
def f21_A (x1 : LL) (x2 : LI) : List G := [(.r (.at (.lst (.list (.int .i64)) x1 false))), (GL x2)]
def f21_K (x1 : LL) (x2 : LI) : List (Nat × Blk) := []
def f21_C (x1 : LL) (x2 : LI) (r : Int × Int) : Prop := CallOK cx 21 (f21_A x1 x2) (f21_K x1 x2) [] (f21_v r) (f21_k x1 x2 r)

def f23_M : List Nat := []
def f23_p2_H (x1 x2 : LI) (x3 : Int) : GS := ⟨[(0, (GL x1)), (1, (GL x2)), (5, (GI x3))], []⟩
def f23_p2_x : f23_p2_R → GExit := fun
 | .c0 => .ret
 | .c1 => (.exit 0)
def f23_p2_s (x1 x2 : LI) : f23_p2_R → GS := fun
 | .c0 => ⟨[(4, (.r (.at (.bool false))))], []⟩
 | .c1 => ⟨[], []⟩
def f23_p2_P (x1 x2 : LI) (x3 : Int) (r : f23_p2_R) : Prop := Lp cx f23_M 26 (part Try.f23 2) (f23_p2_H x1 x2 x3) (f23_p2_x r) (f23_p2_s x1 x2 r)
def f23_v : Bool → G := fun y0 => (GB y0)
def f23_k0 : Bool → List (Nat × Blk) := fun y0 => []
def f23_k (x1 x2 : LI) : Bool → List (Nat × Blk) := fun y0 => []
def f23_A (x1 x2 : LI) : List G := [(GL x1), (GL x2)]
def f23_K (x1 x2 : LI) : List (Nat × Blk) := []
def f23_C (x1 x2 : LI) (r : Bool) : Prop := CallOK cx 23 (f23_A x1 x2) (f23_K x1 x2) [] (f23_v r) (f23_k x1 x2 r)

def f36_M : List Nat := []
def f36_p2_H (x1 x2 : LL) (x3 : Int) : GS := ⟨[(0, (.r (.at (.lst (.list (.int .i64)) x1 false)))), (1, (.r (.at (.lst (.list (.int .i64)) x2 false)))), (5, (GI x3))], []⟩
def f36_p2_x : f36_p2_R → GExit := fun
 | .c0 => .ret
 | .c1 => (.exit 0)
def f36_p2_s (x1 x2 : LL) : f36_p2_R → GS := fun
 | .c0 => ⟨[(4, (.r (.at (.bool false))))], []⟩
 | .c1 => ⟨[], []⟩
def f36_p2_P (x1 x2 : LL) (x3 : Int) (r : f36_p2_R) : Prop := Lp cx f36_M 27 (part Try.f36 2) (f36_p2_H x1 x2 x3) (f36_p2_x r) (f36_p2_s x1 x2 r)
def f36_v : Bool → G := fun y0 => (GB y0)
def f36_k0 : Bool → List (Nat × Blk) := fun y0 => []
def f36_k (x1 x2 : LL) : Bool → List (Nat × Blk) := fun y0 => []
def f36_A (x1 x2 : LL) : List G := [(.r (.at (.lst (.list (.int .i64)) x1 false))), (.r (.at (.lst (.list (.int .i64)) x2 false)))]
def f36_K (x1 x2 : LL) : List (Nat × Blk) := []
def f36_C (x1 x2 : LL) (r : Bool) : Prop := CallOK cx 36 (f36_A x1 x2) (f36_K x1 x2) [] (f36_v r) (f36_k x1 x2 r)

def f84_1_M : List Nat := []
def f84_1_p1_H (x2 : Int) (x1 : LI) (x3 x4 x5 : Int) : GS := ⟨[(0, (.r (.at .nilp))), (2, (GI x2)), (8, (GI x3)), (9, (.r (.at (.int .u8 x4)))), (13, (GL x1)), (14, (.r (.at (.int .i64 (LN x1))))), (15, (GI x5))], []⟩
def f84_1_p1_x : (Int × Int) → GExit := fun (y0, y1) => (.exit 0)
def f84_1_p1_s (x2 : Int) (x1 : LI) : (Int × Int) → GS := fun (y0, y1) => ⟨[(8, (GI y0)), (9, (.r (.at (.int .u8 y1))))], []⟩
def f84_1_p1_P (x2 : Int) (x1 : LI) (x3 x4 x5 : Int) (r : Int × Int) : Prop := Lp cx f84_1_M 51 (part Try.f84 1) (f84_1_p1_H x2 x1 x3 x4 x5) (f84_1_p1_x r) (f84_1_p1_s x2 x1 r)
def f84_1_v : (Int × Bool) → G := fun (y0, y1) => (.tup [(.at (.int .u8 y0)), (.at (.bool y1))])
def f84_1_k0 : (Int × Bool) → List (Nat × Blk) := fun (y0, y1) => []
def f84_1_k (x1 : LI) (x2 : Int) : (Int × Bool) → List (Nat × Blk) := fun (y0, y1) => []
def f84_1_A (x1 : LI) (x2 : Int) : List G := [(.r (.at .nilp)), (GL x1), (GI x2)]
def f84_1_K (x1 : LI) (x2 : Int) : List (Nat × Blk) := []
def f84_1_C (x1 : LI) (x2 : Int) (r : Int × Bool) : Prop := CallOK cx 84 (f84_1_A x1 x2) (f84_1_K x1 x2) [] (f84_1_v r) (f84_1_k x1 x2 r)

def f96_M : List Nat := []
def f96_p1_H (x1 : LI) (x2 x3 : Int) : GS := ⟨[(0, (GL x1)), (1, (GI x2)), (7, (.r (.at (.int .i64 (LN x1))))), (8, (GI x3))], []⟩
def f96_p1_x : f96_p1_R → GExit := fun
 | .c0 y0 => .ret
 | .c1 => (.exit 0)
def f96_p1_s (x1 : LI) (x2 : Int) : f96_p1_R → GS := fun
 | .c0 y0 => ⟨[(4, (GI y0))], []⟩
 | .c1 => ⟨[], []⟩
def f96_p1_P (x1 : LI) (x2 x3 : Int) (r : f96_p1_R) : Prop := Lp cx f96_M 19 (part Try.f96 1) (f96_p1_H x1 x2 x3) (f96_p1_x r) (f96_p1_s x1 x2 r)
def f96_v : Int → G := fun y0 => (GI y0)
def f96_k0 : Int → List (Nat × Blk) := fun y0 => []
def f96_k (x1 : LI) (x2 : Int) : Int → List (Nat × Blk) := fun y0 => []
def f96_A (x1 : LI) (x2 : Int) : List G := [(GL x1), (GI x2)]
def f96_K (x1 : LI) (x2 : Int) : List (Nat × Blk) := []
def f96_C (x1 : LI) (x2 : Int) (r : Int) : Prop := CallOK cx 96 (f96_A x1 x2) (f96_K x1 x2) [] (f96_v r) (f96_k x1 x2 r)

def f53_M : List Nat := []
def f53_v : Bool → G := fun y0 => (GB y0)
def f53_k0 : Bool → List (Nat × Blk) := fun y0 => []
def f53_k (x1 : LI) (x2 : Int) : Bool → List (Nat × Blk) := fun y0 => []
def f53_A (x1 : LI) (x2 : Int) : List G := [(GL x1), (GI x2)]
def f53_K (x1 : LI) (x2 : Int) : List (Nat × Blk) := []
def f53_C (x1 : LI) (x2 : Int) (r : Bool) : Prop := CallOK cx 53 (f53_A x1 x2) (f53_K x1 x2) [] (f53_v r) (f53_k x1 x2 r)

def f37_M : List Nat := [1, 2]
def f37_p0_H (x1 : LL) (x2 x3 : LI) (x4 : Int) : GS := ⟨[(0, (.r (.at (.lst (.list (.int .i64)) x1 false)))), (1, (GL x2)), (2, (GL x3)), (7, (.r (.at .nilp))), (8, (GI x4)), (22, (.r (.at (.bool (x4 == 0)))))], []⟩
def f37_p0_x : Int → GExit := fun y0 => .normal
def f37_p0_s (x1 : LL) (x2 x3 : LI) (x4 : Int) : Int → GS := fun y0 => ⟨[(1, (GL x2)), (2, (GL x3)), (7, (.r (.at .nilp))), (8, (GI y0))], []⟩
def f37_p0_P (x1 : LL) (x2 x3 : LI) (x4 : Int) (r : Int) : Prop := Ex cx f37_M 80 (part Try.f37 0) (f37_p0_H x1 x2 x3 x4) (f37_p0_x r) (f37_p0_s x1 x2 x3 x4 r)
def f37_p3_H (x2 x3 : LI) (x8 : Int) : GS := ⟨[(1, (GL x2)), (2, (GL x3)), (7, (.r (.at .nilp))), (32, (GL x3)), (33, (.r (.at (.int .i64 (LN x3))))), (34, (GI x8))], []⟩
def f37_p3_x : f37_p3_R → GExit := fun
 | .c0 => .ret
 | .c1 => (.exit 0)
def f37_p3_s (x2 x3 : LI) : f37_p3_R → GS := fun
 | .c0 => ⟨[(6, (.r (.at (.int .i64 14))))], []⟩
 | .c1 => ⟨[(1, (GL x2)), (2, (GL x3))], []⟩
def f37_p3_P (x2 x3 : LI) (x8 : Int) (r : f37_p3_R) : Prop := Lp cx f37_M 80 (part Try.f37 3) (f37_p3_H x2 x3 x8) (f37_p3_x r) (f37_p3_s x2 x3 r)
def f37_p8_H (x3 x2 : LI) (x12 : Int) : GS := ⟨[(2, (GL x3)), (64, (GL x2)), (65, (.r (.at (.int .i64 (LN x2))))), (66, (GI x12))], []⟩
def f37_p8_x : f37_p8_R → GExit := fun
 | .c0 => .ret
 | .c1 => (.exit 2)
def f37_p8_s (x3 x2 : LI) : f37_p8_R → GS := fun
 | .c0 => ⟨[(6, (.r (.at (.int .i64 14))))], []⟩
 | .c1 => ⟨[], []⟩
def f37_p8_P (x3 x2 : LI) (x12 : Int) (r : f37_p8_R) : Prop := Lp cx f37_M 80 (part Try.f37 8) (f37_p8_H x3 x2 x12) (f37_p8_x r) (f37_p8_s x3 x2 r)
def f37_p0_1_H (x1 : LL) (x2 x3 : LI) (x15 : Int) (x16 : Mm) (x17 : LL) (x18 : Int) : GS := ⟨[(0, (.r (.at (.lst (.list (.int .i64)) x1 false)))), (1, (GL x2)), (2, (GL x3)), (7, (.r (.at (.ptr 2 0 0)))), (8, (GI x15)), (22, (.r (.at (.bool (x15 == 0)))))], [(1, (.mpb pMa pMb x16)), (2, (.var [.cell (.lst (.list (.int .i64)) x17 false), .cell (.int .i64 x18), .cell (.mp 1)]))]⟩
def f37_p0_1_x : Int → GExit := fun y0 => .normal
def f37_p0_1_s (x1 : LL) (x2 x3 : LI) (x15 : Int) (x16 : Mm) (x17 : LL) (x18 : Int) : Int → GS := fun y0 => ⟨[(1, (GL x2)), (2, (GL x3)), (7, (.r (.at (.ptr 2 0 0)))), (8, (GI y0))], [(1, (.mpb pMa pMb x16)), (2, (.var [.cell (.lst (.list (.int .i64)) x17 false), .cell (.int .i64 x18), .cell (.mp 1)]))]⟩
def f37_p0_1_P (x1 : LL) (x2 x3 : LI) (x15 : Int) (x16 : Mm) (x17 : LL) (x18 : Int) (r : Int) : Prop := Ex cx f37_M 80 (part Try.f37 0) (f37_p0_1_H x1 x2 x3 x15 x16 x17 x18) (f37_p0_1_x r) (f37_p0_1_s x1 x2 x3 x15 x16 x17 x18 r)
def f37_p3_1_H (x2 x3 : LI) (x16 : Mm) (x17 : LL) (x18 x22 : Int) : GS := ⟨[(1, (GL x2)), (2, (GL x3)), (7, (.r (.at (.ptr 2 0 0)))), (32, (GL x3)), (33, (.r (.at (.int .i64 (LN x3))))), (34, (GI x22))], [(1, (.mpb pMa pMb x16)), (2, (.var [.cell (.lst (.list (.int .i64)) x17 false), .cell (.int .i64 x18), .cell (.mp 1)]))]⟩
def f37_p3_1_x : f37_p3_1_R → GExit := fun
 | .c0 => .ret
 | .c1 => (.exit 0)
def f37_p3_1_s (x2 x3 : LI) (x16 : Mm) (x17 : LL) (x18 : Int) : f37_p3_1_R → GS := fun
 | .c0 => ⟨[(6, (.r (.at (.int .i64 14))))], []⟩
 | .c1 => ⟨[(1, (GL x2)), (2, (GL x3))], []⟩
def f37_p3_1_P (x2 x3 : LI) (x16 : Mm) (x17 : LL) (x18 x22 : Int) (r : f37_p3_1_R) : Prop := Lp cx f37_M 80 (part Try.f37 3) (f37_p3_1_H x2 x3 x16 x17 x18 x22) (f37_p3_1_x r) (f37_p3_1_s x2 x3 x16 x17 x18 r)
def f37_p8_1_H (x3 x2 : LI) (x26 : Int) : GS := ⟨[(2, (GL x3)), (64, (GL x2)), (65, (.r (.at (.int .i64 (LN x2))))), (66, (GI x26))], []⟩
def f37_p8_1_x : f37_p8_1_R → GExit := fun
 | .c0 => .ret
 | .c1 => (.exit 2)
def f37_p8_1_s (x3 x2 : LI) : f37_p8_1_R → GS := fun
 | .c0 => ⟨[(6, (.r (.at (.int .i64 14))))], []⟩
 | .c1 => ⟨[], []⟩
def f37_p8_1_P (x3 x2 : LI) (x26 : Int) (r : f37_p8_1_R) : Prop := Lp cx f37_M 80 (part Try.f37 8) (f37_p8_1_H x3 x2 x26) (f37_p8_1_x r) (f37_p8_1_s x3 x2 r)
def f37_v : Int → G := fun y0 => (GI y0)
def f37_k0 : Int → List (Nat × Blk) := fun y0 => []
def f37_k (x1 : LL) (x2 x3 : LI) : Int → List (Nat × Blk) := fun y0 => []
def f37_A (x1 : LL) (x2 x3 : LI) : List G := [(.r (.at (.lst (.list (.int .i64)) x1 false))), (GL x2), (GL x3)]
def f37_K (x1 : LL) (x2 x3 : LI) : List (Nat × Blk) := []
def f37_C (x1 : LL) (x2 x3 : LI) (r : Int) : Prop := CallOK cx 37 (f37_A x1 x2 x3) (f37_K x1 x2 x3) [] (f37_v r) (f37_k x1 x2 x3 r)

def f16_M : List Nat := []
def f16_v : Bool → G := fun y0 => (GB y0)
def f16_k0 : Bool → List (Nat × Blk) := fun y0 => []
def f16_k : Bool → List (Nat × Blk) := fun y0 => []
def f16_A : List G := []
def f16_K : List (Nat × Blk) := []
def f16_C (r : Bool) : Prop := CallOK cx 16 (f16_A) (f16_K) [] (f16_v r) (f16_k r)

def f43_M : List Nat := [43, 44, 45]
def f43_p5_1_H (x6 : Int) (x14 : LL) (x2 x5 : Int) (x15 x1 x4 : Int) (x3 : LI) (x19 : Int) (x18 : LI) : GS := ⟨[(3, (GI x6)), (4, (.r (.at (.ptr 43 0 0)))), (9, (.r (.at (.sl 45 0 (List.length x14))))), (10, (.r (.at (.int .i64 (Int.tmod (w64 (x2)) (w64 (x5 + 1))))))), (11, (GI x15)), (12, (.r (.at (.sl 44 0 (Int.toNat (Int.tmod (w64 (x2)) (w64 (x5 + 1)))))))), (25, (.r (.at (.int .i64 (w64 (1 + (Int.tmod (w64 (x1)) x4))))))), (26, (GI x15)), (32, (.r (.at (.int .i64 (((Int.toNat (Int.tmod (w64 (x2)) (w64 (x5 + 1)))) : Nat) : Int))))), (33, (GI x19))], [(43, (.var [.cell (.int .u8 x1), .cell (.int .u8 x2), .arr (.int .u8) 16 x3])), (44, (.gr (.int .i64) 3 x18 true)), (45, (.gr (.list (.int .i64)) 23 x14 true))]⟩
def f43_p5_1_x : (List Int) → GExit := fun y0 => (.exit 2)
def f43_p5_1_s (x6 : Int) (x14 : LL) (x2 x5 : Int) (x15 x1 x4 : Int) (x3 : LI) : (List Int) → GS := fun y0 => ⟨[(3, (GI x6)), (4, (.r (.at (.ptr 43 0 0)))), (9, (.r (.at (.sl 45 0 (List.length x14))))), (10, (.r (.at (.int .i64 (Int.tmod (w64 (x2)) (w64 (x5 + 1))))))), (12, (.r (.at (.sl 44 0 (Int.toNat (Int.tmod (w64 (x2)) (w64 (x5 + 1)))))))), (25, (.r (.at (.int .i64 (w64 (1 + (Int.tmod (w64 (x1)) x4))))))), (26, (GI x15))], [(43, (.var [.cell (.int .u8 x1), .cell (.int .u8 x2), .arr (.int .u8) 16 x3])), (44, (.gr (.int .i64) 3 y0 true)), (45, (.gr (.list (.int .i64)) 23 x14 true))]⟩
def f43_p5_1_P (x6 : Int) (x14 : LL) (x2 x5 : Int) (x15 x1 x4 : Int) (x3 : LI) (x19 : Int) (x18 : LI) (r : (List Int)) : Prop := Lp cx f43_M 56 (part Try.f43 5) (f43_p5_1_H x6 x14 x2 x5 x15 x1 x4 x3 x19 x18) (f43_p5_1_x r) (f43_p5_1_s x6 x14 x2 x5 x15 x1 x4 x3 r)
def f43_p1_H (x6 x2 : Int) (x5 x1 x4 : Int) (x3 : LI) (x15 : Int) (x14 : LL) : GS := ⟨[(3, (GI x6)), (4, (.r (.at (.ptr 43 0 0)))), (9, (.r (.at (.sl 45 0 (List.length x14))))), (10, (.r (.at (.int .i64 (Int.tmod (w64 (x2)) (w64 (x5 + 1))))))), (25, (.r (.at (.int .i64 (w64 (1 + (Int.tmod (w64 (x1)) x4))))))), (26, (GI x15))], [(43, (.var [.cell (.int .u8 x1), .cell (.int .u8 x2), .arr (.int .u8) 16 x3])), (45, (.gr (.list (.int .i64)) 23 x14 true))]⟩
def f43_p1_x : (List (List Int)) → GExit := fun y0 => (.exit 0)
def f43_p1_s (x6 x2 : Int) (x5 x1 x4 : Int) (x3 : LI) : (List (List Int)) → GS := fun y0 => ⟨[(9, (.r (.at (.sl 45 0 (List.length y0)))))], [(45, (.gr (.list (.int .i64)) 23 y0 true))]⟩
def f43_p1_P (x6 x2 : Int) (x5 x1 x4 : Int) (x3 : LI) (x15 : Int) (x14 : LL) (r : (List (List Int))) : Prop := Lp cx f43_M 56 (part Try.f43 1) (f43_p1_H x6 x2 x5 x1 x4 x3 x15 x14) (f43_p1_x r) (f43_p1_s x6 x2 x5 x1 x4 x3 r)
def f43_v : (List (List Int)) → G := fun y0 => (.r (.at (.lst (.list (.int .i64)) y0 false)))
def f43_k0 : (List (List Int)) → List (Nat × Blk) := fun y0 => []
def f43_k (x1 x2 : Int) (x3 : LI) (x4 x5 x6 : Int) : (List (List Int)) → List (Nat × Blk) := fun y0 => []
def f43_A (x1 x2 : Int) (x3 : LI) (x4 x5 x6 : Int) : List G := [(.r (.agg [.cell (.int .u8 x1), .cell (.int .u8 x2), .arr (.int .u8) 16 x3])), (GI x4), (GI x5), (GI x6)]
def f43_K (x1 x2 : Int) (x3 : LI) (x4 x5 x6 : Int) : List (Nat × Blk) := []
def f43_C (x1 x2 : Int) (x3 : LI) (x4 x5 x6 : Int) (r : (List (List Int))) : Prop := CallOK cx 43 (f43_A x1 x2 x3 x4 x5 x6) (f43_K x1 x2 x3 x4 x5 x6) [] (f43_v r) (f43_k x1 x2 x3 x4 x5 x6 r)

def f8_M : List Nat := [151, 152, 153, 155]
def f8_p5_1_H (x4 x5 : Int) (x6 : LL) (x7 : LI) (x17 : Int) (x18 : LI) (x16 : LL) (x22 : Int) (x21 : LI) : GS := ⟨[(1, (.r (.at (.int .u8 x4)))), (2, (.r (.at (.int .u8 x5)))), (7, (.r (.at (.lst (.list (.int .i64)) x6 false)))), (8, (.r (.at (.int .i64 (LN x6))))), (9, (.r (.at (.int .i64 (LN x7))))), (10, (.r (.at (.sl 152 0 (Int.toNat (LN x6)))))), (11, (GI x17)), (12, (.r (.at (.sl 153 0 (Int.toNat (LN x7)))))), (46, (.r (.at (.int .i64 (LN x6))))), (47, (GI x17)), (55, (GL x18)), (56, (.r (.at (.int .i64 (LN x18))))), (57, (GI x22))], [(152, (.gr (.list (.int .i64)) 23 x16 true)), (153, (.gr (.int .i64) 3 x21 true))]⟩
def f8_p5_1_x : (List Int) → GExit := fun y0 => (.exit 2)
def f8_p5_1_s (x4 x5 : Int) (x6 : LL) (x7 : LI) (x17 : Int) (x18 : LI) (x16 : LL) : (List Int) → GS := fun y0 => ⟨[(1, (.r (.at (.int .u8 x4)))), (2, (.r (.at (.int .u8 x5)))), (7, (.r (.at (.lst (.list (.int .i64)) x6 false)))), (8, (.r (.at (.int .i64 (LN x6))))), (9, (.r (.at (.int .i64 (LN x7))))), (10, (.r (.at (.sl 152 0 (Int.toNat (LN x6)))))), (11, (GI x17)), (12, (.r (.at (.sl 153 0 (Int.toNat (LN x7)))))), (46, (.r (.at (.int .i64 (LN x6))))), (47, (GI x17))], [(152, (.gr (.list (.int .i64)) 23 x16 true)), (153, (.gr (.int .i64) 3 y0 true))]⟩
def f8_p5_1_P (x4 x5 : Int) (x6 : LL) (x7 : LI) (x17 : Int) (x18 : LI) (x16 : LL) (x22 : Int) (x21 : LI) (r : (List Int)) : Prop := Lp cx f8_M 249 (part Try.f8 5) (f8_p5_1_H x4 x5 x6 x7 x17 x18 x16 x22 x21) (f8_p5_1_x r) (f8_p5_1_s x4 x5 x6 x7 x17 x18 x16 r)
def f8_p1_H (x4 x5 : Int) (x6 : LL) (x7 : LI) (x17 : Int) (x16 : LL) : GS := ⟨[(1, (.r (.at (.int .u8 x4)))), (2, (.r (.at (.int .u8 x5)))), (7, (.r (.at (.lst (.list (.int .i64)) x6 false)))), (8, (.r (.at (.int .i64 (LN x6))))), (9, (.r (.at (.int .i64 (LN x7))))), (10, (.r (.at (.sl 152 0 (Int.toNat (LN x6)))))), (46, (.r (.at (.int .i64 (LN x6))))), (47, (GI x17))], [(152, (.gr (.list (.int .i64)) 23 x16 true))]⟩
def f8_p1_x : (List (List Int)) → GExit := fun y0 => (.exit 0)
def f8_p1_s (x4 x5 : Int) (x6 : LL) (x7 : LI) : (List (List Int)) → GS := fun y0 => ⟨[(1, (.r (.at (.int .u8 x4)))), (2, (.r (.at (.int .u8 x5)))), (7, (.r (.at (.lst (.list (.int .i64)) x6 false)))), (8, (.r (.at (.int .i64 (LN x6))))), (9, (.r (.at (.int .i64 (LN x7))))), (10, (.r (.at (.sl 152 0 (Int.toNat (LN x6))))))], [(152, (.gr (.list (.int .i64)) 23 y0 true))]⟩
def f8_p1_P (x4 x5 : Int) (x6 : LL) (x7 : LI) (x17 : Int) (x16 : LL) (r : (List (List Int))) : Prop := Lp cx f8_M 249 (part Try.f8 1) (f8_p1_H x4 x5 x6 x7 x17 x16) (f8_p1_x r) (f8_p1_s x4 x5 x6 x7 r)
def f8_p14_H (x4 x5 : Int) (x6 : LL) (x7 : LI) (x25 : LL) (x26 : Int) (x32 : LI) (x38 x39 : Int) (x30 : LI) : GS := ⟨[(1, (.r (.at (.int .u8 x4)))), (2, (.r (.at (.int .u8 x5)))), (7, (.r (.at (.lst (.list (.int .i64)) x6 false)))), (8, (.r (.at (.int .i64 (LN x6))))), (9, (.r (.at (.int .i64 (LN x7))))), (10, (.r (.at (.lst (.list (.int .i64)) ((List.drop 0 (List.take (0 + (Int.toNat (LN x6))) x25)) : List (List Int)) false)))), (15, (GI x26)), (21, (GL x32)), (25, (GI x38)), (26, (GI x39)), (27, (.r (.at (.int .i64 (-1))))), (156, (GL x30)), (157, (.r (.at (.int .i64 (LN x30))))), (158, (GI x38)), (169, (.r (.at (.bool (decide (x39 < (LN x7)))))))], []⟩
def f8_p14_x : Int → GExit := fun y0 => .normal
def f8_p14_s (x4 x5 : Int) (x6 : LL) (x7 : LI) (x25 : LL) (x26 : Int) (x32 : LI) (x38 x39 : Int) (x30 : LI) : Int → GS := fun y0 => ⟨[(1, (.r (.at (.int .u8 x4)))), (2, (.r (.at (.int .u8 x5)))), (7, (.r (.at (.lst (.list (.int .i64)) x6 false)))), (8, (.r (.at (.int .i64 (LN x6))))), (9, (.r (.at (.int .i64 (LN x7))))), (10, (.r (.at (.lst (.list (.int .i64)) ((List.drop 0 (List.take (0 + (Int.toNat (LN x6))) x25)) : List (List Int)) false)))), (15, (GI x26)), (21, (GL x32)), (25, (GI x38)), (27, (GI y0)), (156, (GL x30)), (157, (.r (.at (.int .i64 (LN x30))))), (158, (GI x38))], []⟩
def f8_p14_P (x4 x5 : Int) (x6 : LL) (x7 : LI) (x25 : LL) (x26 : Int) (x32 : LI) (x38 x39 : Int) (x30 : LI) (r : Int) : Prop := Ex cx f8_M 249 (part Try.f8 14) (f8_p14_H x4 x5 x6 x7 x25 x26 x32 x38 x39 x30) (f8_p14_x r) (f8_p14_s x4 x5 x6 x7 x25 x26 x32 x38 x39 x30 r)
def f8_p11_H (x4 x5 : Int) (x6 : LL) (x7 : LI) (x25 : LL) (x26 : Int) (x32 x30 : LI) (x38 : Int) : GS := ⟨[(1, (.r (.at (.int .u8 x4)))), (2, (.r (.at (.int .u8 x5)))), (7, (.r (.at (.lst (.list (.int .i64)) x6 false)))), (8, (.r (.at (.int .i64 (LN x6))))), (9, (.r (.at (.int .i64 (LN x7))))), (10, (.r (.at (.lst (.list (.int .i64)) ((List.drop 0 (List.take (0 + (Int.toNat (LN x6))) x25)) : List (List Int)) false)))), (15, (GI x26)), (21, (GL x32)), (156, (GL x30)), (157, (.r (.at (.int .i64 (LN x30))))), (158, (GI x38))], []⟩
def f8_p11_x : f8_p11_R → GExit := fun
 | .c0 => .ret
 | .c1 => (.exit 4)
def f8_p11_s (x4 x5 : Int) (x6 : LL) (x7 : LI) (x25 : LL) (x26 : Int) (x32 x30 : LI) : f8_p11_R → GS := fun
 | .c0 => ⟨[(6, (.r (.at (.bool false))))], []⟩
 | .c1 => ⟨[(2, (.r (.at (.int .u8 x5)))), (7, (.r (.at (.lst (.list (.int .i64)) x6 false)))), (9, (.r (.at (.int .i64 (LN x7))))), (10, (.r (.at (.lst (.list (.int .i64)) ((List.drop 0 (List.take (0 + (Int.toNat (LN x6))) x25)) : List (List Int)) false))))], []⟩
def f8_p11_P (x4 x5 : Int) (x6 : LL) (x7 : LI) (x25 : LL) (x26 : Int) (x32 x30 : LI) (x38 : Int) (r : f8_p11_R) : Prop := Lp cx f8_M 249 (part Try.f8 11) (f8_p11_H x4 x5 x6 x7 x25 x26 x32 x30 x38) (f8_p11_x r) (f8_p11_s x4 x5 x6 x7 x25 x26 x32 x30 r)
def f8_p22_H (x5 : Int) (x6 : LL) (x7 : LI) (x25 : LL) (x43 x45 : LI) (x47 : Int) : GS := ⟨[(2, (.r (.at (.int .u8 x5)))), (7, (.r (.at (.lst (.list (.int .i64)) x6 false)))), (9, (.r (.at (.int .i64 (LN x7))))), (10, (.r (.at (.lst (.list (.int .i64)) ((List.drop 0 (List.take (0 + (Int.toNat (LN x6))) x25)) : List (List Int)) false)))), (30, (GL x43)), (32, (GL x45)), (192, (.r (.at (.vw 155 0 0 2)))), (193, (.r (.at (.int .i64 2)))), (194, (.r (.at (.int .i64 0)))), (228, (.r (.at (.int .i64 (LN x7))))), (229, (GI x47))], [(155, (.var [.cell (.fn 39), .cell (.fn 41)]))]⟩
def f8_p22_x : f8_p22_R → GExit := fun
 | .c0 => .ret
 | .c1 => (.exit 8)
def f8_p22_s (x5 : Int) (x6 : LL) (x7 : LI) (x25 : LL) (x43 x45 : LI) : f8_p22_R → GS := fun
 | .c0 => ⟨[(6, (.r (.at (.bool false))))], []⟩
 | .c1 => ⟨[(2, (.r (.at (.int .u8 x5)))), (7, (.r (.at (.lst (.list (.int .i64)) x6 false)))), (9, (.r (.at (.int .i64 (LN x7))))), (10, (.r (.at (.lst (.list (.int .i64)) ((List.drop 0 (List.take (0 + (Int.toNat (LN x6))) x25)) : List (List Int)) false)))), (192, (.r (.at (.vw 155 0 0 2)))), (193, (.r (.at (.int .i64 2)))), (194, (.r (.at (.int .i64 0))))], [(155, (.var [.cell (.fn 39), .cell (.fn 41)]))]⟩
def f8_p22_P (x5 : Int) (x6 : LL) (x7 : LI) (x25 : LL) (x43 x45 : LI) (x47 : Int) (r : f8_p22_R) : Prop := Lp cx f8_M 249 (part Try.f8 22) (f8_p22_H x5 x6 x7 x25 x43 x45 x47) (f8_p22_x r) (f8_p22_s x5 x6 x7 x25 x43 x45 r)
def f8_p22_1_H (x5 : Int) (x6 : LL) (x7 : LI) (x25 : LL) (x50 x52 : LI) (x54 : Int) : GS := ⟨[(2, (.r (.at (.int .u8 x5)))), (7, (.r (.at (.lst (.list (.int .i64)) x6 false)))), (9, (.r (.at (.int .i64 (LN x7))))), (10, (.r (.at (.lst (.list (.int .i64)) ((List.drop 0 (List.take (0 + (Int.toNat (LN x6))) x25)) : List (List Int)) false)))), (30, (GL x50)), (32, (GL x52)), (192, (.r (.at (.vw 155 0 0 2)))), (193, (.r (.at (.int .i64 2)))), (194, (.r (.at (.int .i64 1)))), (228, (.r (.at (.int .i64 (LN x7))))), (229, (GI x54))], [(155, (.var [.cell (.fn 39), .cell (.fn 41)]))]⟩
def f8_p22_1_x : f8_p22_1_R → GExit := fun
 | .c0 => .ret
 | .c1 => (.exit 8)
def f8_p22_1_s (x5 : Int) (x6 : LL) (x7 : LI) (x25 : LL) (x50 x52 : LI) : f8_p22_1_R → GS := fun
 | .c0 => ⟨[(6, (.r (.at (.bool false))))], []⟩
 | .c1 => ⟨[(2, (.r (.at (.int .u8 x5)))), (7, (.r (.at (.lst (.list (.int .i64)) x6 false)))), (9, (.r (.at (.int .i64 (LN x7))))), (10, (.r (.at (.lst (.list (.int .i64)) ((List.drop 0 (List.take (0 + (Int.toNat (LN x6))) x25)) : List (List Int)) false)))), (192, (.r (.at (.vw 155 0 0 2)))), (193, (.r (.at (.int .i64 2)))), (194, (.r (.at (.int .i64 1))))], [(155, (.var [.cell (.fn 39), .cell (.fn 41)]))]⟩
def f8_p22_1_P (x5 : Int) (x6 : LL) (x7 : LI) (x25 : LL) (x50 x52 : LI) (x54 : Int) (r : f8_p22_1_R) : Prop := Lp cx f8_M 249 (part Try.f8 22) (f8_p22_1_H x5 x6 x7 x25 x50 x52 x54) (f8_p22_1_x r) (f8_p22_1_s x5 x6 x7 x25 x50 x52 r)
def f8_v : Bool → G := fun y0 => (GB y0)
def f8_k0 : Bool → List (Nat × Blk) := fun y0 => []
def f8_k (x1 x2 : Int) (x3 : LI) (x4 x5 : Int) : Bool → List (Nat × Blk) := fun y0 => []
def f8_A (x1 x2 : Int) (x3 : LI) (x4 x5 : Int) : List G := [(.r (.agg [.cell (.int .u8 x1), .cell (.int .u8 x2), .arr (.int .u8) 16 x3])), (.r (.at (.int .u8 x4))), (.r (.at (.int .u8 x5)))]
def f8_K (x1 x2 : Int) (x3 : LI) (x4 x5 : Int) : List (Nat × Blk) := []
def f8_C (x1 x2 : Int) (x3 : LI) (x4 x5 : Int) (r : Bool) : Prop := CallOK cx 8 (f8_A x1 x2 x3 x4 x5) (f8_K x1 x2 x3 x4 x5) [] (f8_v r) (f8_k x1 x2 x3 x4 x5 r)

end
end Go.Gh.Sale
