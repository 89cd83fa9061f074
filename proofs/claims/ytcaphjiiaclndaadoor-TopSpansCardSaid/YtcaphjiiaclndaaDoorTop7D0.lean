/- Top7D0: printed by wip/tool/gx.py -/
import Derived.Test.YtcaphjiiaclndaaDoorTopA
import Derived.Test.YtcaphjiiaclndaaDoorGiC
import Derived.Test.YtcaphjiiaclndaaDoorTop7N0
namespace Go.Gh.Top
set_option linter.unusedVariables false
set_option linter.unusedSimpArgs false
abbrev LL : Type := List (List Int)
abbrev LI : Type := List Int
abbrev LN {α : Type} (l : List α) : Int := ((List.length l : Nat) : Int)
theorem eF {b : Bool} (h : ¬ b = true) : b = false := Bool.eq_false_iff.2 h
theorem sI {α : Type} {a b : α} (h : some a = some b) : a = b := Option.some.inj h
abbrev pMa : Go.Gh.Ty := .pair (.int .i64) (.pair (.int .i64) (.pair (.int .u8) .unit))
abbrev pMb : Go.Gh.Ty := .pair (.int .i64) (.pair (.int .i64) .unit)
noncomputable section
open Go.Proofs
abbrev oL (l : List Nat) : En := .co (.live l)
abbrev oK (l : List Nat) : En := .co (.keep l)
abbrev oV (n : Int) : En := .v (.ipt (.int .i64) n)
abbrev oP (e : GExit) (s : GS) : En := .lp e s.env s.hp

def f36_M : List Nat := []
def f36_p1_H (x1 : LI) (x2 x3 : Int) : GS := ⟨[(0, (GL x1)), (1, (GI x2)), (7, (.r (.at (.int .i64 (LN x1))))), (8, (GI x3))], []⟩
def f36_p1_x : f36_p1_R → GExit := fun
 | .c0 y0 => .ret
 | .c1 => (.exit 0)
def f36_p1_s (x1 : LI) (x2 : Int) : f36_p1_R → GS := fun
 | .c0 y0 => ⟨[(4, (GI y0))], []⟩
 | .c1 => ⟨[], []⟩
def f36_p1_P (x1 : LI) (x2 x3 : Int) (r : f36_p1_R) : Prop := Lp cx f36_M 19 (part Tryd.f36 1) (f36_p1_H x1 x2 x3) (f36_p1_x r) (f36_p1_s x1 x2 r)
def f36_v : Int → G := fun y0 => (GI y0)
def f36_k0 : Int → List (Nat × Blk) := fun y0 => []
def f36_k (x1 : LI) (x2 : Int) : Int → List (Nat × Blk) := fun y0 => []
def f36_A (x1 : LI) (x2 : Int) : List G := [(GL x1), (GI x2)]
def f36_K (x1 : LI) (x2 : Int) : List (Nat × Blk) := []
def f36_C (x1 : LI) (x2 : Int) (r : Int) : Prop := CallOK cx 36 (f36_A x1 x2) (f36_K x1 x2) [] (f36_v r) (f36_k x1 x2 r)

def f65_M : List Nat := []
def f65_v : Bool → G := fun y0 => (GB y0)
def f65_k0 : Bool → List (Nat × Blk) := fun y0 => []
def f65_k (x1 : Int) : Bool → List (Nat × Blk) := fun y0 => []
def f65_A (x1 : Int) : List G := [(GI x1)]
def f65_K (x1 : Int) : List (Nat × Blk) := []
def f65_C (x1 : Int) (r : Bool) : Prop := CallOK cx 65 (f65_A x1) (f65_K x1) [] (f65_v r) (f65_k x1 r)

def f102_M : List Nat := []
def f102_p1_H (x1 : Int) (x2 : LI) (x3 x4 x5 : Int) : GS := ⟨[(0, (GI x1)), (6, (.r (.at (.int .u64 x3)))), (7, (GI x4)), (10, (GL x2)), (11, (.r (.at (.int .i64 (LN x2))))), (12, (GI x5))], []⟩
def f102_p1_x : f102_p1_R → GExit := fun
 | .c0 y0 => .ret
 | .c1 y0 => (.exit 0)
def f102_p1_s (x1 : Int) (x2 : LI) : f102_p1_R → GS := fun
 | .c0 y0 => ⟨[(4, (.r (.at (.int .u64 0)))), (5, (GI y0))], []⟩
 | .c1 y0 => ⟨[(6, (.r (.at (.int .u64 y0))))], []⟩
def f102_p1_P (x1 : Int) (x2 : LI) (x3 x4 x5 : Int) (r : f102_p1_R) : Prop := Lp cx f102_M 35 (part Tryd.f102 1) (f102_p1_H x1 x2 x3 x4 x5) (f102_p1_x r) (f102_p1_s x1 x2 r)
def f102_v : (Int × Int) → G := fun (y0, y1) => (.tup [(.at (.int .u64 y0)), (.at (.int .i64 y1))])
def f102_k0 : (Int × Int) → List (Nat × Blk) := fun (y0, y1) => []
def f102_k (x1 : Int) (x2 : LI) : (Int × Int) → List (Nat × Blk) := fun (y0, y1) => []
def f102_A (x1 : Int) (x2 : LI) : List G := [(GI x1), (GL x2)]
def f102_K (x1 : Int) (x2 : LI) : List (Nat × Blk) := []
def f102_C (x1 : Int) (x2 : LI) (r : Int × Int) : Prop := CallOK cx 102 (f102_A x1 x2) (f102_K x1 x2) [] (f102_v r) (f102_k x1 x2 r)

def f86_M : List Nat := []
def f86_v : Bool → G := fun y0 => (GB y0)
def f86_k0 : Bool → List (Nat × Blk) := fun y0 => []
def f86_k (x1 : Int) : Bool → List (Nat × Blk) := fun y0 => []
def f86_A (x1 : Int) : List G := [(GI x1)]
def f86_K (x1 : Int) : List (Nat × Blk) := []
def f86_C (x1 : Int) (r : Bool) : Prop := CallOK cx 86 (f86_A x1) (f86_K x1) [] (f86_v r) (f86_k x1 r)

def f104_M : List Nat := []
def f104_v : Bool → G := fun y0 => (GB y0)
def f104_k0 : Bool → List (Nat × Blk) := fun y0 => []
def f104_k (x1 x2 : Int) : Bool → List (Nat × Blk) := fun y0 => []
def f104_A (x1 x2 : Int) : List G := [(.r (.at (.int .u8 x1))), (GI x2)]
def f104_K (x1 x2 : Int) : List (Nat × Blk) := []
def f104_C (x1 x2 : Int) (r : Bool) : Prop := CallOK cx 104 (f104_A x1 x2) (f104_K x1 x2) [] (f104_v r) (f104_k x1 x2 r)

def f105_M : List Nat := []
def f105_v : (Int × (List Int)) → G := fun (y0, y1) => (.r (.at .unit0))
def f105_k0 : (Int × (List Int)) → List (Nat × Blk) := fun (y0, y1) => [(12, (.var [.cell (.int .i64 y0), .arr (.int .u8) 8 y1]))]
def f105_k (x1 x2 x3 : Int) (x4 : LI) : (Int × (List Int)) → List (Nat × Blk) := fun (y0, y1) => [(12, (.var [.cell (.int .i64 y0), .arr (.int .u8) 8 y1]))]
def f105_A (x1 x2 x3 : Int) (x4 : LI) : List G := [(.r (.at (.ptr 12 0 0))), (GI x1), (GI x2)]
def f105_K (x1 x2 x3 : Int) (x4 : LI) : List (Nat × Blk) := [(12, (.var [.cell (.int .i64 x3), .arr (.int .u8) 8 x4]))]
def f105_C (x1 x2 x3 : Int) (x4 : LI) (r : Int × (List Int)) : Prop := CallOK cx 105 (f105_A x1 x2 x3 x4) (f105_K x1 x2 x3 x4) [] (f105_v r) (f105_k x1 x2 x3 x4 r)

def f70_M : List Nat := [11, 12, 13]
def f70_p2_H (x2 : List (Int × (Int × Unit))) (x1 x12 x13 : Int) (x14 : LI) : GS := ⟨[(1, (.r (.at (.ptr 11 0 0)))), (4, (.r (.at (.ptr 12 0 0)))), (18, (.r (.at (.lst pMb x2 false)))), (19, (.r (.at (.int .i64 (LN x2))))), (20, (GI x12))], [(11, (.var [.cell (.int .i64 x1), .cell (.lst pMb x2 false)])), (12, (.var [.cell (.int .i64 x13), .arr (.int .u8) 8 x14]))]⟩
def f70_p2_x : f70_p2_R → GExit := fun
 | .c0 y0 => .ret
 | .c1 y0 y1 => (.exit 0)
def f70_p2_s (x2 : List (Int × (Int × Unit))) (x1 : Int) : f70_p2_R → GS := fun
 | .c0 y0 => ⟨[(2, (.r (.at .nilp))), (3, (GI y0))], []⟩
 | .c1 y0 y1 => ⟨[(4, (.r (.at (.ptr 12 0 0))))], [(12, (.var [.cell (.int .i64 y0), .arr (.int .u8) 8 y1]))]⟩
def f70_p2_P (x2 : List (Int × (Int × Unit))) (x1 x12 x13 : Int) (x14 : LI) (r : f70_p2_R) : Prop := Lp cx f70_M 60 (part Tryd.f70 2) (f70_p2_H x2 x1 x12 x13 x14) (f70_p2_x r) (f70_p2_s x2 x1 r)
def f70_v : f70_R → G := fun
 | .c0 y0 => (.tup [(.at .nilp), (.at (.int .i64 y0))])
 | .c1 y0 y1 y2 => (.tup [(.at (.ptr 12 0 0)), (.at (.int .i64 y0))])
def f70_k0 : f70_R → List (Nat × Blk) := fun
 | .c0 y0 => []
 | .c1 y0 y1 y2 => [(12, (.var [.cell (.int .i64 y1), .arr (.int .u8) 8 y2]))]
def f70_k (x1 : Int) (x2 : List (Int × (Int × Unit))) : f70_R → List (Nat × Blk) := fun
 | .c0 y0 => []
 | .c1 y0 y1 y2 => [(12, (.var [.cell (.int .i64 y1), .arr (.int .u8) 8 y2]))]
def f70_A (x1 : Int) (x2 : List (Int × (Int × Unit))) : List G := [(.r (.agg [.cell (.int .i64 x1), .cell (.lst pMb x2 false)]))]
def f70_K (x1 : Int) (x2 : List (Int × (Int × Unit))) : List (Nat × Blk) := []
def f70_C (x1 : Int) (x2 : List (Int × (Int × Unit))) (r : f70_R) : Prop := CallOK cx 70 (f70_A x1 x2) (f70_K x1 x2) [] (f70_v r) (f70_k x1 x2 r)

def f71_M : List Nat := []
def f71_p1_H (x1 : Int) : GS := ⟨[(0, (.r (.at .nilp))), (3, (.r (.at .nils))), (4, (GI x1))], []⟩
def f71_p1_x : f71_p1_R → GExit := fun r => nomatch r
def f71_p1_s : f71_p1_R → GS := fun r => nomatch r
def f71_p1_P (x1 : Int) (r : f71_p1_R) : Prop := Lp cx f71_M 44 (part Tryd.f71 1) (f71_p1_H x1) (f71_p1_x r) (f71_p1_s r)
def f71_v : f71_R → G := fun r => nomatch r
def f71_k0 : f71_R → List (Nat × Blk) := fun r => nomatch r
def f71_k : f71_R → List (Nat × Blk) := fun r => nomatch r
def f71_A : List G := [(.r (.at .nilp))]
def f71_K : List (Nat × Blk) := []
def f71_C (r : f71_R) : Prop := CallOK cx 71 (f71_A) (f71_K) [] (f71_v r) (f71_k r)

def f84_M : List Nat := []
def f84_v : Int → G := fun y0 => (GI y0)
def f84_k0 : Int → List (Nat × Blk) := fun y0 => []
def f84_k (x1 : Int) : Int → List (Nat × Blk) := fun y0 => []
def f84_A (x1 : Int) : List G := [(.r (.at (.int .u8 x1)))]
def f84_K (x1 : Int) : List (Nat × Blk) := []
def f84_C (x1 : Int) (r : Int) : Prop := CallOK cx 84 (f84_A x1) (f84_K x1) [] (f84_v r) (f84_k x1 r)

def f85_M : List Nat := [14]
def f85_p1_H (x5 : Int) (x4 : LI) : GS := ⟨[(0, (.r (.at (.int .u8 x5)))), (3, (.r (.at (.sl 14 0 (List.length x4)))))], [(14, (.gr (.int .i64) 3 x4 true))]⟩
def f85_p1_x : (List Int) → GExit := fun y0 => (.exit 0)
def f85_p1_s : (List Int) → GS := fun y0 => ⟨[(3, (.r (.at (.sl 14 0 (List.length y0)))))], [(14, (.gr (.int .i64) 3 y0 true))]⟩
def f85_p1_P (x5 : Int) (x4 : LI) (r : (List Int)) : Prop := Lp cx f85_M 16 (part Tryd.f85 1) (f85_p1_H x5 x4) (f85_p1_x r) (f85_p1_s r)
def f85_v : (List Int) → G := fun y0 => (GL y0)
def f85_k0 : (List Int) → List (Nat × Blk) := fun y0 => []
def f85_k (x1 : Int) : (List Int) → List (Nat × Blk) := fun y0 => []
def f85_A (x1 : Int) : List G := [(.r (.at (.int .u8 x1)))]
def f85_K (x1 : Int) : List (Nat × Blk) := []
def f85_C (x1 : Int) (r : (List Int)) : Prop := CallOK cx 85 (f85_A x1) (f85_K x1) [] (f85_v r) (f85_k x1 r)

def f106_M : List Nat := []
def f106_p1_H (x1 : Int) (x4 : LI) (x2 : Int) (x3 : LI) (x5 : Int) : GS := ⟨[(0, (.r (.at (.ptr 12 0 0)))), (1, (.r (.at (.int .u8 x1)))), (8, (GL x4)), (9, (.r (.at (.int .i64 (LN x4))))), (10, (GI x5))], [(12, (.var [.cell (.int .i64 x2), .arr (.int .u8) 8 x3]))]⟩
def f106_p1_x : f106_p1_R → GExit := fun
 | .c0 => .ret
 | .c1 => (.exit 0)
def f106_p1_s (x1 : Int) (x4 : LI) (x2 : Int) (x3 : LI) : f106_p1_R → GS := fun
 | .c0 => ⟨[(4, (.r (.at (.bool false))))], [(12, (.var [.cell (.int .i64 x2), .arr (.int .u8) 8 x3]))]⟩
 | .c1 => ⟨[], [(12, (.var [.cell (.int .i64 x2), .arr (.int .u8) 8 x3]))]⟩
def f106_p1_P (x1 : Int) (x4 : LI) (x2 : Int) (x3 : LI) (x5 : Int) (r : f106_p1_R) : Prop := Lp cx f106_M 26 (part Tryd.f106 1) (f106_p1_H x1 x4 x2 x3 x5) (f106_p1_x r) (f106_p1_s x1 x4 x2 x3 r)
def f106_v : Bool → G := fun y0 => (GB y0)
def f106_k0 : Bool → List (Nat × Blk) := fun y0 => []
def f106_k (x1 x2 : Int) (x3 : LI) : Bool → List (Nat × Blk) := fun y0 => [(12, (.var [.cell (.int .i64 x2), .arr (.int .u8) 8 x3]))]
def f106_A (x1 x2 : Int) (x3 : LI) : List G := [(.r (.at (.ptr 12 0 0))), (.r (.at (.int .u8 x1)))]
def f106_K (x1 x2 : Int) (x3 : LI) : List (Nat × Blk) := [(12, (.var [.cell (.int .i64 x2), .arr (.int .u8) 8 x3]))]
def f106_C (x1 x2 : Int) (x3 : LI) (r : Bool) : Prop := CallOK cx 106 (f106_A x1 x2 x3) (f106_K x1 x2 x3) [] (f106_v r) (f106_k x1 x2 x3 r)

def f147_M : List Nat := []
def f147_v : Bool → G := fun y0 => (GB y0)
def f147_k0 : Bool → List (Nat × Blk) := fun y0 => []
def f147_k (x1 : Int) : Bool → List (Nat × Blk) := fun y0 => []
def f147_A (x1 : Int) : List G := [(GI x1)]
def f147_K (x1 : Int) : List (Nat × Blk) := []
def f147_C (x1 : Int) (r : Bool) : Prop := CallOK cx 147 (f147_A x1) (f147_K x1) [] (f147_v r) (f147_k x1 r)

def f136_M : List Nat := []
def f136_v : Int → G := fun y0 => (GI y0)
def f136_k0 : Int → List (Nat × Blk) := fun y0 => []
def f136_k (x1 x2 : Int) : Int → List (Nat × Blk) := fun y0 => []
def f136_A (x1 x2 : Int) : List G := [(GI x1), (GI x2)]
def f136_K (x1 x2 : Int) : List (Nat × Blk) := []
def f136_C (x1 x2 : Int) (r : Int) : Prop := CallOK cx 136 (f136_A x1 x2) (f136_K x1 x2) [] (f136_v r) (f136_k x1 x2 r)

def f107_M : List Nat := []
def f107_p1_H (x1 x2 : LI) (x3 : Int) : GS := ⟨[(0, (GL x1)), (1, (GL x2)), (9, (GL x1)), (10, (.r (.at (.int .i64 (LN x1))))), (11, (GI x3))], []⟩
def f107_p1_x : f107_p1_R → GExit := fun
 | .c0 y0 => .ret
 | .c1 => (.exit 0)
def f107_p1_s (x1 x2 : LI) : f107_p1_R → GS := fun
 | .c0 y0 => ⟨[(4, (GI y0))], []⟩
 | .c1 => ⟨[(0, (GL x1)), (1, (GL x2))], []⟩
def f107_p1_P (x1 x2 : LI) (x3 : Int) (r : f107_p1_R) : Prop := Lp cx f107_M 36 (part Tryd.f107 1) (f107_p1_H x1 x2 x3) (f107_p1_x r) (f107_p1_s x1 x2 r)
def f107_v : Int → G := fun y0 => (GI y0)
def f107_k0 : Int → List (Nat × Blk) := fun y0 => []
def f107_k (x1 x2 : LI) : Int → List (Nat × Blk) := fun y0 => []
def f107_A (x1 x2 : LI) : List G := [(GL x1), (GL x2)]
def f107_K (x1 x2 : LI) : List (Nat × Blk) := []
def f107_C (x1 x2 : LI) (r : Int) : Prop := CallOK cx 107 (f107_A x1 x2) (f107_K x1 x2) [] (f107_v r) (f107_k x1 x2 r)

def f71_1_M : List Nat := []
def f71_1_p4_H (x6 : LI) (x7 : Int) (x8 : LI) (x10 x1 : Int) (x2 : LI) : GS := ⟨[(0, (.r (.at (.ptr 12 0 0)))), (3, (GL x6)), (4, (GI x7)), (5, (GL x8)), (41, (.r (.at (.bool (decide (x10 < 0))))))], [(12, (.var [.cell (.int .i64 x1), .arr (.int .u8) 8 x2]))]⟩
def f71_1_p4_x : (List Int) → GExit := fun y0 => .normal
def f71_1_p4_s (x6 : LI) (x7 : Int) (x8 : LI) (x10 x1 : Int) (x2 : LI) : (List Int) → GS := fun y0 => ⟨[(0, (.r (.at (.ptr 12 0 0)))), (3, (GL y0)), (4, (GI x7))], [(12, (.var [.cell (.int .i64 x1), .arr (.int .u8) 8 x2]))]⟩
def f71_1_p4_P (x6 : LI) (x7 : Int) (x8 : LI) (x10 x1 : Int) (x2 : LI) (r : (List Int)) : Prop := Ex cx f71_1_M 44 (part Tryd.f71 4) (f71_1_p4_H x6 x7 x8 x10 x1 x2) (f71_1_p4_x r) (f71_1_p4_s x6 x7 x8 x10 x1 x2 r)
def f71_1_p1_H (x1 : Int) (x2 x6 : LI) (x7 : Int) : GS := ⟨[(0, (.r (.at (.ptr 12 0 0)))), (3, (GL x6)), (4, (GI x7))], [(12, (.var [.cell (.int .i64 x1), .arr (.int .u8) 8 x2]))]⟩
def f71_1_p1_x : (List Int) → GExit := fun y0 => (.exit 0)
def f71_1_p1_s (x1 : Int) (x2 : LI) : (List Int) → GS := fun y0 => ⟨[(3, (GL y0))], [(12, (.var [.cell (.int .i64 x1), .arr (.int .u8) 8 x2]))]⟩
def f71_1_p1_P (x1 : Int) (x2 x6 : LI) (x7 : Int) (r : (List Int)) : Prop := Lp cx f71_1_M 44 (part Tryd.f71 1) (f71_1_p1_H x1 x2 x6 x7) (f71_1_p1_x r) (f71_1_p1_s x1 x2 r)
def f71_1_v : (List Int) → G := fun y0 => (GL y0)
def f71_1_k0 : (List Int) → List (Nat × Blk) := fun y0 => []
def f71_1_k (x1 : Int) (x2 : LI) : (List Int) → List (Nat × Blk) := fun y0 => [(12, (.var [.cell (.int .i64 x1), .arr (.int .u8) 8 x2]))]
def f71_1_A (x1 : Int) (x2 : LI) : List G := [(.r (.at (.ptr 12 0 0)))]
def f71_1_K (x1 : Int) (x2 : LI) : List (Nat × Blk) := [(12, (.var [.cell (.int .i64 x1), .arr (.int .u8) 8 x2]))]
def f71_1_C (x1 : Int) (x2 : LI) (r : (List Int)) : Prop := CallOK cx 71 (f71_1_A x1 x2) (f71_1_K x1 x2) [] (f71_1_v r) (f71_1_k x1 x2 r)

def f30_M : List Nat := [10, 12]
def f30_v : ((List Int) × Int) → G := fun (y0, y1) => (.tup [(.at (.lst (.int .i64) y0 false)), (.at (.int .i64 y1))])
def f30_k0 : ((List Int) × Int) → List (Nat × Blk) := fun (y0, y1) => []
def f30_k (x1 : Int) (x2 : List (Int × (Int × Unit))) : ((List Int) × Int) → List (Nat × Blk) := fun (y0, y1) => []
def f30_A (x1 : Int) (x2 : List (Int × (Int × Unit))) : List G := [(.r (.agg [.cell (.int .i64 x1), .cell (.lst pMb x2 false)]))]
def f30_K (x1 : Int) (x2 : List (Int × (Int × Unit))) : List (Nat × Blk) := []
def f30_C (x1 : Int) (x2 : List (Int × (Int × Unit))) (r : (List Int) × Int) : Prop := CallOK cx 30 (f30_A x1 x2) (f30_K x1 x2) [] (f30_v r) (f30_k x1 x2 r)

def f72_M : List Nat := [17]
def f72_p5_1_H (x1 x2 : Nat) (x3 x4 x20 : Int) (x5 x18 x24 : LI) : GS := ⟨[(0, (.r (.at (.ptr 12 0 0)))), (1, (.r (.at (.sl 16 x1 x2)))), (2, (GI x3)), (8, (.r (.at (.sl 17 0 (Int.toNat x4))))), (9, (GI x20))], [(12, (.var [.cell (.int .i64 x4), .arr (.int .u8) 8 x5])), (16, (.gr (.int .u8) 114 x18 true)), (17, (.gr (.int .i64) 3 x24 true))]⟩
def f72_p5_1_x : (List Int) → GExit := fun y0 => (.exit 2)
def f72_p5_1_s (x1 x2 : Nat) (x3 x4 x20 : Int) (x5 x18 : LI) : (List Int) → GS := fun y0 => ⟨[(0, (.r (.at (.ptr 12 0 0)))), (1, (.r (.at (.sl 16 x1 x2)))), (2, (GI x3)), (8, (.r (.at (.sl 17 0 (Int.toNat x4))))), (9, (GI x20))], [(12, (.var [.cell (.int .i64 x4), .arr (.int .u8) 8 x5])), (16, (.gr (.int .u8) 114 x18 true)), (17, (.gr (.int .i64) 3 y0 true))]⟩
def f72_p5_1_P (x1 x2 : Nat) (x3 x4 x20 : Int) (x5 x18 x24 : LI) (r : (List Int)) : Prop := Lp cx f72_M 92 (part Tryd.f72 5) (f72_p5_1_H x1 x2 x3 x4 x20 x5 x18 x24) (f72_p5_1_x r) (f72_p5_1_s x1 x2 x3 x4 x20 x5 x18 r)
def f72_p1_H (x1 x2 : Nat) (x3 x4 : Int) (x5 : LI) (x20 : Int) (x18 x19 : LI) : GS := ⟨[(0, (.r (.at (.ptr 12 0 0)))), (1, (.r (.at (.sl 16 x1 x2)))), (2, (GI x3)), (8, (.r (.at (.sl 17 0 (Int.toNat x4))))), (9, (GI x20))], [(12, (.var [.cell (.int .i64 x4), .arr (.int .u8) 8 x5])), (16, (.gr (.int .u8) 114 x18 true)), (17, (.gr (.int .i64) 3 x19 true))]⟩
def f72_p1_x : f72_p1_R → GExit := fun
 | .c0 y0 => .ret
 | .c1 y0 y1 => (.exit 0)
def f72_p1_s (x1 x2 : Nat) (x3 x4 : Int) (x5 : LI) : f72_p1_R → GS := fun
 | .c0 y0 => ⟨[(6, (.r (.at .nils))), (7, (.r (.at (.bool false))))], [(12, (.var [.cell (.int .i64 x4), .arr (.int .u8) 8 x5])), (16, (.gr (.int .u8) 114 y0 true))]⟩
 | .c1 y0 y1 => ⟨[(8, (.r (.at (.sl 17 0 (Int.toNat x4)))))], [(12, (.var [.cell (.int .i64 x4), .arr (.int .u8) 8 x5])), (16, (.gr (.int .u8) 114 y0 true)), (17, (.gr (.int .i64) 3 y1 true))]⟩
def f72_p1_P (x1 x2 : Nat) (x3 x4 : Int) (x5 : LI) (x20 : Int) (x18 x19 : LI) (r : f72_p1_R) : Prop := Lp cx f72_M 92 (part Tryd.f72 1) (f72_p1_H x1 x2 x3 x4 x5 x20 x18 x19) (f72_p1_x r) (f72_p1_s x1 x2 x3 x4 x5 r)
def f72_v : ((List Int) × Bool × (List Int)) → G := fun (y0, y1, y2) => (.tup [(.at (.lst (.int .i64) y0 false)), (.at (.bool y1))])
def f72_k0 : ((List Int) × Bool × (List Int)) → List (Nat × Blk) := fun (y0, y1, y2) => [(16, (.gr (.int .u8) 114 y2 true))]
def f72_k (x1 x2 : Nat) (x3 x4 : Int) (x5 x6 : LI) : ((List Int) × Bool × (List Int)) → List (Nat × Blk) := fun (y0, y1, y2) => [(16, (.gr (.int .u8) 114 y2 true)), (12, (.var [.cell (.int .i64 x4), .arr (.int .u8) 8 x5]))]
def f72_A (x1 x2 : Nat) (x3 x4 : Int) (x5 x6 : LI) : List G := [(.r (.at (.ptr 12 0 0))), (.r (.at (.sl 16 x1 x2))), (GI x3)]
def f72_K (x1 x2 : Nat) (x3 x4 : Int) (x5 x6 : LI) : List (Nat × Blk) := [(12, (.var [.cell (.int .i64 x4), .arr (.int .u8) 8 x5])), (16, (.gr (.int .u8) 114 x6 true))]
def f72_C (x1 x2 : Nat) (x3 x4 : Int) (x5 x6 : LI) (r : (List Int) × Bool × (List Int)) : Prop := CallOK cx 72 (f72_A x1 x2 x3 x4 x5 x6) (f72_K x1 x2 x3 x4 x5 x6) [] (f72_v r) (f72_k x1 x2 x3 x4 x5 x6 r)

def f31_M : List Nat := [12, 15, 16, 18]
def f31_p2_H (x4 : Int) : GS := ⟨[(4, (.r (.at .nilp))), (6, (GI x4))], []⟩
def f31_p2_x : f31_p2_R → GExit := fun r => nomatch r
def f31_p2_s : f31_p2_R → GS := fun r => nomatch r
def f31_p2_P (x4 : Int) (r : f31_p2_R) : Prop := Lp cx f31_M 50 (part Tryd.f31 2) (f31_p2_H x4) (f31_p2_x r) (f31_p2_s r)
def f31_p2_1_H (x6 : Int) (x7 : LI) (x8 : Int) : GS := ⟨[(4, (.r (.at (.ptr 12 0 0)))), (6, (GI x8))], [(12, (.var [.cell (.int .i64 x6), .arr (.int .u8) 8 x7]))]⟩
def f31_p2_1_x : f31_p2_1_R → GExit := fun
 | .c0 y0 => .ret
 | .c1 => (.exit 0)
def f31_p2_1_s (x6 : Int) (x7 : LI) : f31_p2_1_R → GS := fun
 | .c0 y0 => ⟨[(2, (GL y0)), (3, (.r (.at (.int .i64 0))))], []⟩
 | .c1 => ⟨[(4, (.r (.at (.ptr 12 0 0))))], [(12, (.var [.cell (.int .i64 x6), .arr (.int .u8) 8 x7]))]⟩
def f31_p2_1_P (x6 : Int) (x7 : LI) (x8 : Int) (r : f31_p2_1_R) : Prop := Lp cx f31_M 50 (part Tryd.f31 2) (f31_p2_1_H x6 x7 x8) (f31_p2_1_x r) (f31_p2_1_s x6 x7 r)
def f31_p7_H (x6 x15 : Int) (x14 : LI) : GS := ⟨[(9, (.r (.at (.sl 18 0 (List.length x14))))), (40, (GI x6)), (41, (GI x15))], [(18, (.gr (.int .i64) 3 x14 true))]⟩
def f31_p7_x : (List Int) → GExit := fun y0 => (.exit 2)
def f31_p7_s (x6 : Int) : (List Int) → GS := fun y0 => ⟨[(9, (.r (.at (.sl 18 0 (List.length y0)))))], [(18, (.gr (.int .i64) 3 y0 true))]⟩
def f31_p7_P (x6 x15 : Int) (x14 : LI) (r : (List Int)) : Prop := Lp cx f31_M 50 (part Tryd.f31 7) (f31_p7_H x6 x15 x14) (f31_p7_x r) (f31_p7_s x6 r)
def f31_v : ((List Int) × Int) → G := fun (y0, y1) => (.tup [(.at (.lst (.int .i64) y0 false)), (.at (.int .i64 y1))])
def f31_k0 : ((List Int) × Int) → List (Nat × Blk) := fun (y0, y1) => []
def f31_k (x1 : Int) (x2 : List (Int × (Int × Unit))) : ((List Int) × Int) → List (Nat × Blk) := fun (y0, y1) => []
def f31_A (x1 : Int) (x2 : List (Int × (Int × Unit))) : List G := [(.r (.agg [.cell (.int .i64 x1), .cell (.lst pMb x2 false)]))]
def f31_K (x1 : Int) (x2 : List (Int × (Int × Unit))) : List (Nat × Blk) := []
def f31_C (x1 : Int) (x2 : List (Int × (Int × Unit))) (r : (List Int) × Int) : Prop := CallOK cx 31 (f31_A x1 x2) (f31_K x1 x2) [] (f31_v r) (f31_k x1 x2 r)

def f32_M : List Nat := []
def f32_p0_H (x1 : LI) : GS := ⟨[(0, (GL x1)), (7, (.r (.at (.bool (decide ((LN x1) < 1))))))], []⟩
def f32_p0_x : Unit → GExit := fun _ => .normal
def f32_p0_s (x1 : LI) : Unit → GS := fun _ => ⟨[(0, (GL x1))], []⟩
def f32_p0_P (x1 : LI) (r : Unit) : Prop := Ex cx f32_M 25 (part Tryd.f32 0) (f32_p0_H x1) (f32_p0_x r) (f32_p0_s x1 r)
def f32_p2_H (x1 : LI) (x3 x4 : Int) : GS := ⟨[(0, (GL x1)), (3, (GI x3)), (4, (GI x4))], []⟩
def f32_p2_x : Int → GExit := fun y0 => (.exit 0)
def f32_p2_s (x1 : LI) : Int → GS := fun y0 => ⟨[(3, (GI y0))], []⟩
def f32_p2_P (x1 : LI) (x3 x4 : Int) (r : Int) : Prop := Lp cx f32_M 25 (part Tryd.f32 2) (f32_p2_H x1 x3 x4) (f32_p2_x r) (f32_p2_s x1 r)
def f32_v : Int → G := fun y0 => (GI y0)
def f32_k0 : Int → List (Nat × Blk) := fun y0 => []
def f32_k (x1 : LI) : Int → List (Nat × Blk) := fun y0 => []
def f32_A (x1 : LI) : List G := [(GL x1)]
def f32_K (x1 : LI) : List (Nat × Blk) := []
def f32_C (x1 : LI) (r : Int) : Prop := CallOK cx 32 (f32_A x1) (f32_K x1) [] (f32_v r) (f32_k x1 r)

def f16_M : List Nat := []
def f16_v : (List Int) → G := fun y0 => (GL y0)
def f16_k0 : (List Int) → List (Nat × Blk) := fun y0 => []
def f16_k (x1 : LI) : (List Int) → List (Nat × Blk) := fun y0 => []
def f16_A (x1 : LI) : List G := [(GL x1)]
def f16_K (x1 : LI) : List (Nat × Blk) := []
def f16_C (x1 : LI) (r : (List Int)) : Prop := CallOK cx 16 (f16_A x1) (f16_K x1) [] (f16_v r) (f16_k x1 r)

def f63_M : List Nat := []
def f63_p2_H (x1 x2 : LI) (x3 : Int) : GS := ⟨[(0, (GL x1)), (1, (GL x2)), (12, (.r (.at (.int .i64 (LN x1))))), (13, (GI x3))], []⟩
def f63_p2_x : f63_p2_R → GExit := fun
 | .c0 => .ret
 | .c1 => (.exit 0)
def f63_p2_s (x1 x2 : LI) : f63_p2_R → GS := fun
 | .c0 => ⟨[(4, (.r (.at (.bool false))))], []⟩
 | .c1 => ⟨[], []⟩
def f63_p2_P (x1 x2 : LI) (x3 : Int) (r : f63_p2_R) : Prop := Lp cx f63_M 26 (part Tryd.f63 2) (f63_p2_H x1 x2 x3) (f63_p2_x r) (f63_p2_s x1 x2 r)
def f63_v : Bool → G := fun y0 => (GB y0)
def f63_k0 : Bool → List (Nat × Blk) := fun y0 => []
def f63_k (x1 x2 : LI) : Bool → List (Nat × Blk) := fun y0 => []
def f63_A (x1 x2 : LI) : List G := [(GL x1), (GL x2)]
def f63_K (x1 x2 : LI) : List (Nat × Blk) := []
def f63_C (x1 x2 : LI) (r : Bool) : Prop := CallOK cx 63 (f63_A x1 x2) (f63_K x1 x2) [] (f63_v r) (f63_k x1 x2 r)

def f97_M : List Nat := []
def f97_v : Bool → G := fun y0 => (GB y0)
def f97_k0 : Bool → List (Nat × Blk) := fun y0 => []
def f97_k (x1 : Int) : Bool → List (Nat × Blk) := fun y0 => []
def f97_A (x1 : Int) : List G := [(GI x1)]
def f97_K (x1 : Int) : List (Nat × Blk) := []
def f97_C (x1 : Int) (r : Bool) : Prop := CallOK cx 97 (f97_A x1) (f97_K x1) [] (f97_v r) (f97_k x1 r)

def f129_M : List Nat := []
def f129_v : Int → G := fun y0 => (GI y0)
def f129_k0 : Int → List (Nat × Blk) := fun y0 => []
def f129_k (x1 : Int) : Int → List (Nat × Blk) := fun y0 => []
def f129_A (x1 : Int) : List G := [(.r (.at (.int .u16 x1)))]
def f129_K (x1 : Int) : List (Nat × Blk) := []
def f129_C (x1 : Int) (r : Int) : Prop := CallOK cx 129 (f129_A x1) (f129_K x1) [] (f129_v r) (f129_k x1 r)

def f130_M : List Nat := []
def f130_v : (List Int) → G := fun y0 => (.r (.at (.lst (.int .i64) y0 true)))
def f130_k0 : (List Int) → List (Nat × Blk) := fun y0 => []
def f130_k (x1 : LI) : (List Int) → List (Nat × Blk) := fun y0 => []
def f130_A (x1 : LI) : List G := [(GL x1)]
def f130_K (x1 : LI) : List (Nat × Blk) := []
def f130_C (x1 : LI) (r : (List Int)) : Prop := CallOK cx 130 (f130_A x1) (f130_K x1) [] (f130_v r) (f130_k x1 r)

def f99_M : List Nat := [21, 22]
def f99_p2_H (x4 : LI) (x5 x6 x1 : Int) (x2 : LI) (x3 : Int) : GS := ⟨[(1, (GL x4)), (2, (.r (.at (.int .u16 x5)))), (3, (GI x6)), (4, (.r (.at (.ptr 21 0 0)))), (10, (.r (.at (.int .i64 0)))), (34, (.r (.at (.bool (decide ((LN x4) > 0))))))], [(21, (.var [.cell (.int .i64 x1), .cell (.lst (.int .u16) x2 false), .cell (.int .u16 x3)]))]⟩
def f99_p2_x : Int → GExit := fun y0 => .normal
def f99_p2_s (x4 : LI) (x5 x6 x1 : Int) (x2 : LI) (x3 : Int) : Int → GS := fun y0 => ⟨[(1, (GL x4)), (2, (.r (.at (.int .u16 x5)))), (3, (GI x6)), (4, (.r (.at (.ptr 21 0 0)))), (10, (GI y0))], [(21, (.var [.cell (.int .i64 x1), .cell (.lst (.int .u16) x2 false), .cell (.int .u16 x3)]))]⟩
def f99_p2_P (x4 : LI) (x5 x6 x1 : Int) (x2 : LI) (x3 : Int) (r : Int) : Prop := Ex cx f99_M 71 (part Tryd.f99 2) (f99_p2_H x4 x5 x6 x1 x2 x3) (f99_p2_x r) (f99_p2_s x4 x5 x6 x1 x2 x3 r)
def f99_p4_H (x4 : LI) (x5 x6 x1 : Int) (x2 : LI) (x3 x10 : Int) : GS := ⟨[(1, (GL x4)), (2, (.r (.at (.int .u16 x5)))), (3, (GI x6)), (4, (.r (.at (.ptr 21 0 0)))), (11, (GI x10))], [(21, (.var [.cell (.int .i64 x1), .cell (.lst (.int .u16) x2 false), .cell (.int .u16 x3)]))]⟩
def f99_p4_x : f99_p4_R → GExit := fun
 | .c0 y0 => .ret
 | .c1 => (.exit 0)
def f99_p4_s (x4 : LI) (x5 x6 x1 : Int) (x2 : LI) (x3 : Int) : f99_p4_R → GS := fun
 | .c0 y0 => ⟨[(8, (GL y0)), (9, (.r (.at (.bool true))))], []⟩
 | .c1 => ⟨[], []⟩
def f99_p4_P (x4 : LI) (x5 x6 x1 : Int) (x2 : LI) (x3 x10 : Int) (r : f99_p4_R) : Prop := Lp cx f99_M 71 (part Tryd.f99 4) (f99_p4_H x4 x5 x6 x1 x2 x3 x10) (f99_p4_x r) (f99_p4_s x4 x5 x6 x1 x2 x3 r)
def f99_v : ((List Int) × Bool) → G := fun (y0, y1) => (.tup [(.at (.lst (.int .i64) y0 false)), (.at (.bool y1))])
def f99_k0 : ((List Int) × Bool) → List (Nat × Blk) := fun (y0, y1) => []
def f99_k (x1 : Int) (x2 : LI) (x3 : Int) (x4 : LI) (x5 x6 : Int) : ((List Int) × Bool) → List (Nat × Blk) := fun (y0, y1) => []
def f99_A (x1 : Int) (x2 : LI) (x3 : Int) (x4 : LI) (x5 x6 : Int) : List G := [(.r (.agg [.cell (.int .i64 x1), .cell (.lst (.int .u16) x2 false), .cell (.int .u16 x3)])), (GL x4), (.r (.at (.int .u16 x5))), (GI x6)]
def f99_K (x1 : Int) (x2 : LI) (x3 : Int) (x4 : LI) (x5 x6 : Int) : List (Nat × Blk) := []
def f99_C (x1 : Int) (x2 : LI) (x3 : Int) (x4 : LI) (x5 x6 : Int) (r : (List Int) × Bool) : Prop := CallOK cx 99 (f99_A x1 x2 x3 x4 x5 x6) (f99_K x1 x2 x3 x4 x5 x6) [] (f99_v r) (f99_k x1 x2 x3 x4 x5 x6 r)

def f62_M : List Nat := [19, 20]
def f62_p8_2_H (x1 x14 x15 : Int) (x13 : LI) (x16 x17 x18 : Int) : GS := ⟨[(0, (GI x1)), (4, (.r (.at (.ptr 19 0 0)))), (5, (GI x14)), (6, (.r (.at (.int .u16 x17)))), (25, (.r (.at (.int .i64 (iShl .i64 1 x1))))), (26, (GI x14)), (31, (GI x1)), (32, (GI x18))], [(19, (.var [.cell (.int .i64 x15), .cell (.sl 20 0 (List.length x13)), .cell (.int .u16 x16)])), (20, (.gr (.int .u16) 150 x13 true))]⟩
def f62_p8_2_x : Int → GExit := fun y0 => (.exit 3)
def f62_p8_2_s (x1 x14 x15 : Int) (x13 : LI) (x16 : Int) : Int → GS := fun y0 => ⟨[(0, (GI x1)), (4, (.r (.at (.ptr 19 0 0)))), (6, (.r (.at (.int .u16 y0)))), (25, (.r (.at (.int .i64 (iShl .i64 1 x1))))), (26, (GI x14))], [(19, (.var [.cell (.int .i64 x15), .cell (.sl 20 0 (List.length x13)), .cell (.int .u16 x16)])), (20, (.gr (.int .u16) 150 x13 true))]⟩
def f62_p8_2_P (x1 x14 x15 : Int) (x13 : LI) (x16 x17 x18 : Int) (r : Int) : Prop := Lp cx f62_M 65 (part Tryd.f62 8) (f62_p8_2_H x1 x14 x15 x13 x16 x17 x18) (f62_p8_2_x r) (f62_p8_2_s x1 x14 x15 x13 x16 r)
def f62_p4_H (x1 x14 : Int) (x15 x16 : Int) (x13 : LI) : GS := ⟨[(0, (GI x1)), (4, (.r (.at (.ptr 19 0 0)))), (25, (.r (.at (.int .i64 (iShl .i64 1 x1))))), (26, (GI x14))], [(19, (.var [.cell (.int .i64 x15), .cell (.sl 20 0 (List.length x13)), .cell (.int .u16 x16)])), (20, (.gr (.int .u16) 150 x13 true))]⟩
def f62_p4_x : (Int × Int × (List Int)) → GExit := fun (y0, y1, y2) => (.exit 1)
def f62_p4_s (x1 : Int) : (Int × Int × (List Int)) → GS := fun (y0, y1, y2) => ⟨[(4, (.r (.at (.ptr 19 0 0))))], [(19, (.var [.cell (.int .i64 y0), .cell (.sl 20 0 (List.length y2)), .cell (.int .u16 y1)])), (20, (.gr (.int .u16) 150 y2 true))]⟩
def f62_p4_P (x1 x14 : Int) (x15 x16 : Int) (x13 : LI) (r : Int × Int × (List Int)) : Prop := Lp cx f62_M 65 (part Tryd.f62 4) (f62_p4_H x1 x14 x15 x16 x13) (f62_p4_x r) (f62_p4_s x1 r)
def f62_p12_H (x20 : Int) (x22 : LI) (x21 x26 : Int) : GS := ⟨[(4, (.r (.at (.ptr 19 0 0)))), (8, (GI x26))], [(19, (.var [.cell (.int .i64 x20), .cell (.lst (.int .u16) ((List.drop 0 (List.take (0 + (List.length x22)) x22)) : List Int) false), .cell (.int .u16 x21)]))]⟩
def f62_p12_x : f62_p12_R → GExit := fun
 | .c0 y0 => .ret
 | .c1 => (.exit 5)
def f62_p12_s (x20 : Int) (x22 : LI) (x21 : Int) : f62_p12_R → GS := fun
 | .c0 y0 => ⟨[(2, (GL y0)), (3, (.r (.at (.int .i64 0))))], []⟩
 | .c1 => ⟨[], []⟩
def f62_p12_P (x20 : Int) (x22 : LI) (x21 x26 : Int) (r : f62_p12_R) : Prop := Lp cx f62_M 65 (part Tryd.f62 12) (f62_p12_H x20 x22 x21 x26) (f62_p12_x r) (f62_p12_s x20 x22 x21 r)
def f62_v : ((List Int) × Int) → G := fun (y0, y1) => (.tup [(.at (.lst (.int .i64) y0 false)), (.at (.int .i64 y1))])
def f62_k0 : ((List Int) × Int) → List (Nat × Blk) := fun (y0, y1) => []
def f62_k (x1 : Int) : ((List Int) × Int) → List (Nat × Blk) := fun (y0, y1) => []
def f62_A (x1 : Int) : List G := [(GI x1)]
def f62_K (x1 : Int) : List (Nat × Blk) := []
def f62_C (x1 : Int) (r : (List Int) × Int) : Prop := CallOK cx 62 (f62_A x1) (f62_K x1) [] (f62_v r) (f62_k x1 r)

def f131_M : List Nat := []
def f131_v : (Int × Int) → G := fun (y0, y1) => (.tup [(.at (.int .u64 y0)), (.at (.int .i64 y1))])
def f131_k0 : (Int × Int) → List (Nat × Blk) := fun (y0, y1) => []
def f131_k (x1 : Int) (x2 : LI) : (Int × Int) → List (Nat × Blk) := fun (y0, y1) => []
def f131_A (x1 : Int) (x2 : LI) : List G := [(GI x1), (GL x2)]
def f131_K (x1 : Int) (x2 : LI) : List (Nat × Blk) := []
def f131_C (x1 : Int) (x2 : LI) (r : Int × Int) : Prop := CallOK cx 131 (f131_A x1 x2) (f131_K x1 x2) [] (f131_v r) (f131_k x1 x2 r)

def f128_M : List Nat := []
def f128_v : Int → G := fun y0 => (GI y0)
def f128_k0 : Int → List (Nat × Blk) := fun y0 => []
def f128_k (x1 : Int) : Int → List (Nat × Blk) := fun y0 => []
def f128_A (x1 : Int) : List G := [(.r (.at (.int .u64 x1)))]
def f128_K (x1 : Int) : List (Nat × Blk) := []
def f128_C (x1 : Int) (r : Int) : Prop := CallOK cx 128 (f128_A x1) (f128_K x1) [] (f128_v r) (f128_k x1 r)

def f98_M : List Nat := []
def f98_v : Int → G := fun y0 => (GI y0)
def f98_k0 : Int → List (Nat × Blk) := fun y0 => []
def f98_k (x1 : Int) : Int → List (Nat × Blk) := fun y0 => []
def f98_A (x1 : Int) : List G := [(.r (.at (.int .u64 x1)))]
def f98_K (x1 : Int) : List (Nat × Blk) := []
def f98_C (x1 : Int) (r : Int) : Prop := CallOK cx 98 (f98_A x1) (f98_K x1) [] (f98_v r) (f98_k x1 r)

def f142_M : List Nat := [23]
def f142_p1_H (x5 : Int) (x4 : LI) : GS := ⟨[(0, (.r (.at (.int .u64 x5)))), (3, (.r (.at (.sl 23 0 (List.length x4)))))], [(23, (.gr (.int .i64) 3 x4 true))]⟩
def f142_p1_x : (List Int) → GExit := fun y0 => (.exit 0)
def f142_p1_s : (List Int) → GS := fun y0 => ⟨[(3, (.r (.at (.sl 23 0 (List.length y0)))))], [(23, (.gr (.int .i64) 3 y0 true))]⟩
def f142_p1_P (x5 : Int) (x4 : LI) (r : (List Int)) : Prop := Lp cx f142_M 16 (part Tryd.f142 1) (f142_p1_H x5 x4) (f142_p1_x r) (f142_p1_s r)
def f142_v : (List Int) → G := fun y0 => (.r (.at (.sl 23 0 (List.length y0))))
def f142_k0 : (List Int) → List (Nat × Blk) := fun y0 => [(23, (.gr (.int .i64) 3 y0 true))]
def f142_k (x1 : Int) : (List Int) → List (Nat × Blk) := fun y0 => [(23, (.gr (.int .i64) 3 y0 true))]
def f142_A (x1 : Int) : List G := [(.r (.at (.int .u64 x1)))]
def f142_K (x1 : Int) : List (Nat × Blk) := []
def f142_C (x1 : Int) (r : (List Int)) : Prop := CallOK cx 142 (f142_A x1) (f142_K x1) [] (f142_v r) (f142_k x1 r)

def f143_1_M : List Nat := []
def f143_1_v : (Nat × Nat × (List Int)) → G := fun (y0, y1, y2) => (.r (.at (.sl 23 y0 y1)))
def f143_1_k0 : (Nat × Nat × (List Int)) → List (Nat × Blk) := fun (y0, y1, y2) => [(23, (.gr (.int .i64) 3 y2 true))]
def f143_1_k (x1 x2 : Nat) (x3 x4 : Int) (x5 : LI) : (Nat × Nat × (List Int)) → List (Nat × Blk) := fun (y0, y1, y2) => [(23, (.gr (.int .i64) 3 y2 true))]
def f143_1_A (x1 x2 : Nat) (x3 x4 : Int) (x5 : LI) : List G := [(.r (.at (.sl 23 x1 x2))), (GI x3), (GI x4)]
def f143_1_K (x1 x2 : Nat) (x3 x4 : Int) (x5 : LI) : List (Nat × Blk) := [(23, (.gr (.int .i64) 3 x5 true))]
def f143_1_C (x1 x2 : Nat) (x3 x4 : Int) (x5 : LI) (r : Nat × Nat × (List Int)) : Prop := CallOK cx 143 (f143_1_A x1 x2 x3 x4 x5) (f143_1_K x1 x2 x3 x4 x5) [] (f143_1_v r) (f143_1_k x1 x2 x3 x4 x5 r)

def f132_M : List Nat := [23]
def f132_p4_1_H (x2 : Int) (x16 x17 : Nat) (x18 x20 : Int) (x15 : LI) : GS := ⟨[(1, (.r (.at (.int .u64 x2)))), (5, (.r (.at (.sl 23 x16 x17)))), (6, (GI x18)), (33, (.r (.at (.bool ((iAnd .u64 (iShr .u64 x2 x20) 1) == 0)))))], [(23, (.gr (.int .i64) 3 x15 true))]⟩
def f132_p4_1_x : (Nat × Nat × Int × (List Int)) → GExit := fun (y0, y1, y2, y3) => .normal
def f132_p4_1_s (x2 : Int) (x16 x17 : Nat) (x18 x20 : Int) (x15 : LI) : (Nat × Nat × Int × (List Int)) → GS := fun (y0, y1, y2, y3) => ⟨[(1, (.r (.at (.int .u64 x2)))), (5, (.r (.at (.sl 23 y0 y1)))), (6, (GI y2))], [(23, (.gr (.int .i64) 3 y3 true))]⟩
def f132_p4_1_P (x2 : Int) (x16 x17 : Nat) (x18 x20 : Int) (x15 : LI) (r : Nat × Nat × Int × (List Int)) : Prop := Ex cx f132_M 46 (part Tryd.f132 4) (f132_p4_1_H x2 x16 x17 x18 x20 x15) (f132_p4_1_x r) (f132_p4_1_s x2 x16 x17 x18 x20 x15 r)
def f132_p1_H (x2 : Int) (x16 x17 : Nat) (x18 : Int) (x15 : LI) : GS := ⟨[(1, (.r (.at (.int .u64 x2)))), (5, (.r (.at (.sl 23 x16 x17)))), (6, (GI x18))], [(23, (.gr (.int .i64) 3 x15 true))]⟩
def f132_p1_x : (Nat × Nat × (List Int)) → GExit := fun (y0, y1, y2) => (.exit 0)
def f132_p1_s (x2 : Int) : (Nat × Nat × (List Int)) → GS := fun (y0, y1, y2) => ⟨[(5, (.r (.at (.sl 23 y0 y1))))], [(23, (.gr (.int .i64) 3 y2 true))]⟩
def f132_p1_P (x2 : Int) (x16 x17 : Nat) (x18 : Int) (x15 : LI) (r : Nat × Nat × (List Int)) : Prop := Lp cx f132_M 46 (part Tryd.f132 1) (f132_p1_H x2 x16 x17 x18 x15) (f132_p1_x r) (f132_p1_s x2 r)
def f132_v : (List Int) → G := fun y0 => (GL y0)
def f132_k0 : (List Int) → List (Nat × Blk) := fun y0 => []
def f132_k (x1 x2 : Int) : (List Int) → List (Nat × Blk) := fun y0 => []
def f132_A (x1 x2 : Int) : List G := [(GI x1), (.r (.at (.int .u64 x2)))]
def f132_K (x1 x2 : Int) : List (Nat × Blk) := []
def f132_C (x1 x2 : Int) (r : (List Int)) : Prop := CallOK cx 132 (f132_A x1 x2) (f132_K x1 x2) [] (f132_v r) (f132_k x1 x2 r)

def f100_M : List Nat := []
def f100_v : ((List Int) × Int) → G := fun (y0, y1) => (.tup [(.at (.lst (.int .i64) y0 false)), (.at (.int .i64 y1))])
def f100_k0 : ((List Int) × Int) → List (Nat × Blk) := fun (y0, y1) => []
def f100_k (x1 : Int) (x2 : LI) : ((List Int) × Int) → List (Nat × Blk) := fun (y0, y1) => []
def f100_A (x1 : Int) (x2 : LI) : List G := [(GI x1), (GL x2)]
def f100_K (x1 : Int) (x2 : LI) : List (Nat × Blk) := []
def f100_C (x1 : Int) (x2 : LI) (r : (List Int) × Int) : Prop := CallOK cx 100 (f100_A x1 x2) (f100_K x1 x2) [] (f100_v r) (f100_k x1 x2 r)

def f91_M : List Nat := []
def f91_v : Bool → G := fun y0 => (GB y0)
def f91_k0 : Bool → List (Nat × Blk) := fun y0 => []
def f91_k (x1 x2 x3 : Int) : Bool → List (Nat × Blk) := fun y0 => []
def f91_A (x1 x2 x3 : Int) : List G := [(GI x1), (GI x2), (GI x3)]
def f91_K (x1 x2 x3 : Int) : List (Nat × Blk) := []
def f91_C (x1 x2 x3 : Int) (r : Bool) : Prop := CallOK cx 91 (f91_A x1 x2 x3) (f91_K x1 x2 x3) [] (f91_v r) (f91_k x1 x2 x3 r)

def f126_M : List Nat := []
def f126_p2_H (x1 x2 : Int) (x3 x4 : Int) : GS := ⟨[(0, (GI x1)), (5, (GI x3)), (9, (GI x2)), (10, (GI x4))], []⟩
def f126_p2_x : Int → GExit := fun y0 => (.exit 0)
def f126_p2_s (x1 x2 : Int) : Int → GS := fun y0 => ⟨[(5, (GI y0))], []⟩
def f126_p2_P (x1 x2 : Int) (x3 x4 : Int) (r : Int) : Prop := Lp cx f126_M 23 (part Tryd.f126 2) (f126_p2_H x1 x2 x3 x4) (f126_p2_x r) (f126_p2_s x1 x2 r)
def f126_v : Int → G := fun y0 => (GI y0)
def f126_k0 : Int → List (Nat × Blk) := fun y0 => []
def f126_k (x1 x2 : Int) : Int → List (Nat × Blk) := fun y0 => []
def f126_A (x1 x2 : Int) : List G := [(GI x1), (GI x2)]
def f126_K (x1 x2 : Int) : List (Nat × Blk) := []
def f126_C (x1 x2 : Int) (r : Int) : Prop := CallOK cx 126 (f126_A x1 x2) (f126_K x1 x2) [] (f126_v r) (f126_k x1 x2 r)

def f96_M : List Nat := []
def f96_v : Int → G := fun y0 => (GI y0)
def f96_k0 : Int → List (Nat × Blk) := fun y0 => []
def f96_k (x1 x2 x3 : Int) : Int → List (Nat × Blk) := fun y0 => []
def f96_A (x1 x2 x3 : Int) : List G := [(GI x1), (GI x2), (GI x3)]
def f96_K (x1 x2 x3 : Int) : List (Nat × Blk) := []
def f96_C (x1 x2 x3 : Int) (r : Int) : Prop := CallOK cx 96 (f96_A x1 x2 x3) (f96_K x1 x2 x3) [] (f96_v r) (f96_k x1 x2 x3 r)

def f58_M : List Nat := []
def f58_v : (Int × Int) → G := fun (y0, y1) => (.tup [(.at (.int .i64 y0)), (.at (.int .i64 y1))])
def f58_k0 : (Int × Int) → List (Nat × Blk) := fun (y0, y1) => []
def f58_k (x1 x2 x3 : Int) : (Int × Int) → List (Nat × Blk) := fun (y0, y1) => []
def f58_A (x1 x2 x3 : Int) : List G := [(GI x1), (GI x2), (GI x3)]
def f58_K (x1 x2 x3 : Int) : List (Nat × Blk) := []
def f58_C (x1 x2 x3 : Int) (r : Int × Int) : Prop := CallOK cx 58 (f58_A x1 x2 x3) (f58_K x1 x2 x3) [] (f58_v r) (f58_k x1 x2 x3 r)

def f21_M : List Nat := []
def f21_v : (Int × Int) → G := fun (y0, y1) => (.tup [(.at (.int .i64 y0)), (.at (.int .i64 y1))])
def f21_k0 : (Int × Int) → List (Nat × Blk) := fun (y0, y1) => []
def f21_k (x1 x2 x3 : Int) : (Int × Int) → List (Nat × Blk) := fun (y0, y1) => []
def f21_A (x1 x2 x3 : Int) : List G := [(GI x1), (GI x2), (GI x3)]
def f21_K (x1 x2 x3 : Int) : List (Nat × Blk) := []
def f21_C (x1 x2 x3 : Int) (r : Int × Int) : Prop := CallOK cx 21 (f21_A x1 x2 x3) (f21_K x1 x2 x3) [] (f21_v r) (f21_k x1 x2 x3 r)

def f173_M : List Nat := []
def f173_v : Bool → G := fun y0 => (GB y0)
def f173_k0 : Bool → List (Nat × Blk) := fun y0 => []
def f173_k (x1 x2 x3 : Int) : Bool → List (Nat × Blk) := fun y0 => []
def f173_A (x1 x2 x3 : Int) : List G := [(GI x1), (GI x2), (GI x3)]
def f173_K (x1 x2 x3 : Int) : List (Nat × Blk) := []
def f173_C (x1 x2 x3 : Int) (r : Bool) : Prop := CallOK cx 173 (f173_A x1 x2 x3) (f173_K x1 x2 x3) [] (f173_v r) (f173_k x1 x2 x3 r)

def f172_M : List Nat := []
def f172_v : Bool → G := fun y0 => (GB y0)
def f172_k0 : Bool → List (Nat × Blk) := fun y0 => []
def f172_k (x1 : Int) : Bool → List (Nat × Blk) := fun y0 => []
def f172_A (x1 : Int) : List G := [(GI x1)]
def f172_K (x1 : Int) : List (Nat × Blk) := []
def f172_C (x1 : Int) (r : Bool) : Prop := CallOK cx 172 (f172_A x1) (f172_K x1) [] (f172_v r) (f172_k x1 r)

def f92_M : List Nat := []
def f92_p1_H (x1 : LI) (x2 : Int) : GS := ⟨[(0, (GL x1)), (1, (.r (.at (.fn 172)))), (7, (.r (.at (.int .i64 (LN x1))))), (8, (GI x2))], []⟩
def f92_p1_x : f92_p1_R → GExit := fun
 | .c0 y0 => .ret
 | .c1 => (.exit 0)
def f92_p1_s (x1 : LI) : f92_p1_R → GS := fun
 | .c0 y0 => ⟨[(4, (GI y0))], []⟩
 | .c1 => ⟨[], []⟩
def f92_p1_P (x1 : LI) (x2 : Int) (r : f92_p1_R) : Prop := Lp cx f92_M 19 (part Tryd.f92 1) (f92_p1_H x1 x2) (f92_p1_x r) (f92_p1_s x1 r)
def f92_v : Int → G := fun y0 => (GI y0)
def f92_k0 : Int → List (Nat × Blk) := fun y0 => []
def f92_k (x1 : LI) : Int → List (Nat × Blk) := fun y0 => []
def f92_A (x1 : LI) : List G := [(GL x1), (.r (.at (.fn 172)))]
def f92_K (x1 : LI) : List (Nat × Blk) := []
def f92_C (x1 : LI) (r : Int) : Prop := CallOK cx 92 (f92_A x1) (f92_K x1) [] (f92_v r) (f92_k x1 r)

def f168_M : List Nat := []
def f168_v : Bool → G := fun y0 => (GB y0)
def f168_k0 : Bool → List (Nat × Blk) := fun y0 => []
def f168_k (x1 : LI) : Bool → List (Nat × Blk) := fun y0 => []
def f168_A (x1 : LI) : List G := [(GL x1), (.r (.at (.fn 172)))]
def f168_K (x1 : LI) : List (Nat × Blk) := []
def f168_C (x1 : LI) (r : Bool) : Prop := CallOK cx 168 (f168_A x1) (f168_K x1) [] (f168_v r) (f168_k x1 r)

def f167_M : List Nat := []
def f167_v : Int → G := fun y0 => (GI y0)
def f167_k0 : Int → List (Nat × Blk) := fun y0 => []
def f167_k (x1 : LI) (x2 : Int) : Int → List (Nat × Blk) := fun y0 => []
def f167_A (x1 : LI) (x2 : Int) : List G := [(GL x1), (GI x2)]
def f167_K (x1 : LI) (x2 : Int) : List (Nat × Blk) := []
def f167_C (x1 : LI) (x2 : Int) (r : Int) : Prop := CallOK cx 167 (f167_A x1 x2) (f167_K x1 x2) [] (f167_v r) (f167_k x1 x2 r)

def f161_M : List Nat := []
def f161_p4_H (x1 : LL) (x3 : Int) : GS := ⟨[(0, (.r (.at (.lst (.list (.int .i64)) x1 false)))), (21, (.r (.at (.lst (.list (.int .i64)) x1 false)))), (22, (.r (.at (.int .i64 (LN x1))))), (23, (GI x3))], []⟩
def f161_p4_x : f161_p4_R → GExit := fun
 | .c0 y0 => .ret
 | .c1 => (.exit 1)
def f161_p4_s (x1 : LL) : f161_p4_R → GS := fun
 | .c0 y0 => ⟨[(2, (GI y0))], []⟩
 | .c1 => ⟨[], []⟩
def f161_p4_P (x1 : LL) (x3 : Int) (r : f161_p4_R) : Prop := Lp cx f161_M 37 (part Tryd.f161 4) (f161_p4_H x1 x3) (f161_p4_x r) (f161_p4_s x1 r)
def f161_v : Int → G := fun y0 => (GI y0)
def f161_k0 : Int → List (Nat × Blk) := fun y0 => []
def f161_k (x1 : LL) : Int → List (Nat × Blk) := fun y0 => []
def f161_A (x1 : LL) : List G := [(.r (.at (.lst (.list (.int .i64)) x1 false)))]
def f161_K (x1 : LL) : List (Nat × Blk) := []
def f161_C (x1 : LL) (r : Int) : Prop := CallOK cx 161 (f161_A x1) (f161_K x1) [] (f161_v r) (f161_k x1 r)

def f151_M : List Nat := [24, 25]
def f151_v : f151_R → G := fun
 | .c0 y0 => (.tup [(.at .nilp), (.at (.int .i64 y0))])
 | .c1 y0 y1 y2 y3 => (.tup [(.at (.ptr 25 0 0)), (.at (.int .i64 y0))])
def f151_k0 : f151_R → List (Nat × Blk) := fun
 | .c0 y0 => []
 | .c1 y0 y1 y2 y3 => [(24, (.mpb pMa pMb y1)), (25, (.var [.cell (.lst (.list (.int .i64)) y2 false), .cell (.int .i64 y3), .cell (.mp 24)]))]
def f151_k (x1 : LL) : f151_R → List (Nat × Blk) := fun
 | .c0 y0 => []
 | .c1 y0 y1 y2 y3 => [(24, (.mpb pMa pMb y1)), (25, (.var [.cell (.lst (.list (.int .i64)) y2 false), .cell (.int .i64 y3), .cell (.mp 24)]))]
def f151_A (x1 : LL) : List G := [(.r (.at (.lst (.list (.int .i64)) x1 false)))]
def f151_K (x1 : LL) : List (Nat × Blk) := []
def f151_C (x1 : LL) (r : f151_R) : Prop := CallOK cx 151 (f151_A x1) (f151_K x1) [] (f151_v r) (f151_k x1 r)

def f154_M : List Nat := []
def f154_v : f154_R → G := fun r => nomatch r
def f154_k0 : f154_R → List (Nat × Blk) := fun r => nomatch r
def f154_k : f154_R → List (Nat × Blk) := fun r => nomatch r
def f154_A : List G := [(.r (.at .nilp))]
def f154_K : List (Nat × Blk) := []
def f154_C (r : f154_R) : Prop := CallOK cx 154 (f154_A) (f154_K) [] (f154_v r) (f154_k r)

def f152_M : List Nat := []
def f152_v : f152_R → G := fun r => nomatch r
def f152_k0 : f152_R → List (Nat × Blk) := fun r => nomatch r
def f152_k : f152_R → List (Nat × Blk) := fun r => nomatch r
def f152_A : List G := [(.r (.at .nilp))]
def f152_K : List (Nat × Blk) := []
def f152_C (r : f152_R) : Prop := CallOK cx 152 (f152_A) (f152_K) [] (f152_v r) (f152_k r)

def f154_1_M : List Nat := []
def f154_1_v : Int → G := fun y0 => (.r (.at (.int .u8 y0)))
def f154_1_k0 : Int → List (Nat × Blk) := fun y0 => []
def f154_1_k (x1 : List ((Int × (Int × (Int × Unit))) × (Int × (Int × Unit)))) (x2 : LL) (x3 : Int) : Int → List (Nat × Blk) := fun y0 => [(24, (.mpb pMa pMb x1)), (25, (.var [.cell (.lst (.list (.int .i64)) x2 false), .cell (.int .i64 x3), .cell (.mp 24)]))]
def f154_1_A (x1 : List ((Int × (Int × (Int × Unit))) × (Int × (Int × Unit)))) (x2 : LL) (x3 : Int) : List G := [(.r (.at (.ptr 25 0 0)))]
def f154_1_K (x1 : List ((Int × (Int × (Int × Unit))) × (Int × (Int × Unit)))) (x2 : LL) (x3 : Int) : List (Nat × Blk) := [(24, (.mpb pMa pMb x1)), (25, (.var [.cell (.lst (.list (.int .i64)) x2 false), .cell (.int .i64 x3), .cell (.mp 24)]))]
def f154_1_C (x1 : List ((Int × (Int × (Int × Unit))) × (Int × (Int × Unit)))) (x2 : LL) (x3 : Int) (r : Int) : Prop := CallOK cx 154 (f154_1_A x1 x2 x3) (f154_1_K x1 x2 x3) [] (f154_1_v r) (f154_1_k x1 x2 x3 r)

def f162_M : List Nat := []
def f162_v : (Int × Bool) → G := fun (y0, y1) => (.tup [(.at (.int .u8 y0)), (.at (.bool y1))])
def f162_k0 : (Int × Bool) → List (Nat × Blk) := fun (y0, y1) => []
def f162_k (x1 x2 : Int) : (Int × Bool) → List (Nat × Blk) := fun (y0, y1) => []
def f162_A (x1 x2 : Int) : List G := [(.r (.at (.int .u8 x1))), (GI x2)]
def f162_K (x1 x2 : Int) : List (Nat × Blk) := []
def f162_C (x1 x2 : Int) (r : Int × Bool) : Prop := CallOK cx 162 (f162_A x1 x2) (f162_K x1 x2) [] (f162_v r) (f162_k x1 x2 r)

def f155_M : List Nat := []
def f155_v : Int → G := fun y0 => (GI y0)
def f155_k0 : Int → List (Nat × Blk) := fun y0 => []
def f155_k (x1 x2 : Int) (x3 : List ((Int × (Int × (Int × Unit))) × (Int × (Int × Unit)))) (x4 : LL) (x5 : Int) : Int → List (Nat × Blk) := fun y0 => [(24, (.mpb pMa pMb x3)), (25, (.var [.cell (.lst (.list (.int .i64)) x4 false), .cell (.int .i64 x5), .cell (.mp 24)]))]
def f155_A (x1 x2 : Int) (x3 : List ((Int × (Int × (Int × Unit))) × (Int × (Int × Unit)))) (x4 : LL) (x5 : Int) : List G := [(.r (.at (.ptr 25 0 0))), (GI x1), (GI x2)]
def f155_K (x1 x2 : Int) (x3 : List ((Int × (Int × (Int × Unit))) × (Int × (Int × Unit)))) (x4 : LL) (x5 : Int) : List (Nat × Blk) := [(24, (.mpb pMa pMb x3)), (25, (.var [.cell (.lst (.list (.int .i64)) x4 false), .cell (.int .i64 x5), .cell (.mp 24)]))]
def f155_C (x1 x2 : Int) (x3 : List ((Int × (Int × (Int × Unit))) × (Int × (Int × Unit)))) (x4 : LL) (x5 : Int) (r : Int) : Prop := CallOK cx 155 (f155_A x1 x2 x3 x4 x5) (f155_K x1 x2 x3 x4 x5) [] (f155_v r) (f155_k x1 x2 x3 x4 x5 r)

def f153_M : List Nat := [26, 27, 28, 29, 30]
def f153_p9_1_H (x17 x23 : Int) (x26 x19 : Int) (x25 : List ((Int × (Int × (Int × Unit))) × (Int × (Int × Unit)))) (x5 : LL) (x6 x1 : Int) (x2 x3 : Int) (x20 x24 : Int) : GS := ⟨[(0, (.r (.at (.ptr 25 0 0)))), (3, (.r (.at (.ptr 26 0 0)))), (4, (.r (.at (.ptr 27 0 0)))), (7, (.r (.at (.ptr 29 0 0)))), (8, (GI x17)), (11, (.r (.at (.ptr 30 0 0)))), (86, (.r (.at (.bool ((w64 (x23 + x26)) == x19)))))], [(24, (.mpb pMa pMb x25)), (25, (.var [.cell (.lst (.list (.int .i64)) x5 false), .cell (.int .i64 x6), .cell (.mp 24)])), (26, (.var [.cell (.int .i64 x1), .cell (.int .i64 x2), .cell (.int .u8 x3)])), (27, (.var [.cell (.int .i64 0), .cell (.int .i64 0)])), (29, (.var [.cell (.int .i64 x19), .cell (.int .i64 x20)])), (30, (.var [.cell (.int .i64 (w64 (x23 + x26))), .cell (.int .i64 x24)]))]⟩
def f153_p9_1_x : Int → GExit := fun y0 => .normal
def f153_p9_1_s (x17 x23 : Int) (x26 x19 : Int) (x25 : List ((Int × (Int × (Int × Unit))) × (Int × (Int × Unit)))) (x5 : LL) (x6 x1 : Int) (x2 x3 : Int) (x20 x24 : Int) : Int → GS := fun y0 => ⟨[(0, (.r (.at (.ptr 25 0 0)))), (3, (.r (.at (.ptr 26 0 0)))), (4, (.r (.at (.ptr 27 0 0)))), (7, (.r (.at (.ptr 29 0 0)))), (8, (GI x17))], [(24, (.mpb pMa pMb x25)), (25, (.var [.cell (.lst (.list (.int .i64)) x5 false), .cell (.int .i64 x6), .cell (.mp 24)])), (26, (.var [.cell (.int .i64 x1), .cell (.int .i64 x2), .cell (.int .u8 x3)])), (27, (.var [.cell (.int .i64 0), .cell (.int .i64 0)])), (29, (.var [.cell (.int .i64 x19), .cell (.int .i64 y0)]))]⟩
def f153_p9_1_P (x17 x23 : Int) (x26 x19 : Int) (x25 : List ((Int × (Int × (Int × Unit))) × (Int × (Int × Unit)))) (x5 : LL) (x6 x1 : Int) (x2 x3 : Int) (x20 x24 : Int) (r : Int) : Prop := Ex cx f153_M 105 (part Tryd.f153 9) (f153_p9_1_H x17 x23 x26 x19 x25 x5 x6 x1 x2 x3 x20 x24) (f153_p9_1_x r) (f153_p9_1_s x17 x23 x26 x19 x25 x5 x6 x1 x2 x3 x20 x24 r)
def f153_p8_1_H (x17 x23 : Int) (x26 x19 : Int) (x25 : List ((Int × (Int × (Int × Unit))) × (Int × (Int × Unit)))) (x5 : LL) (x6 x1 : Int) (x2 x3 : Int) (x20 x24 : Int) : GS := ⟨[(0, (.r (.at (.ptr 25 0 0)))), (3, (.r (.at (.ptr 26 0 0)))), (4, (.r (.at (.ptr 27 0 0)))), (7, (.r (.at (.ptr 29 0 0)))), (8, (GI x17)), (11, (.r (.at (.ptr 30 0 0)))), (79, (.r (.at (.bool (decide ((w64 (x23 + x26)) > x19))))))], [(24, (.mpb pMa pMb x25)), (25, (.var [.cell (.lst (.list (.int .i64)) x5 false), .cell (.int .i64 x6), .cell (.mp 24)])), (26, (.var [.cell (.int .i64 x1), .cell (.int .i64 x2), .cell (.int .u8 x3)])), (27, (.var [.cell (.int .i64 0), .cell (.int .i64 0)])), (29, (.var [.cell (.int .i64 x19), .cell (.int .i64 x20)])), (30, (.var [.cell (.int .i64 (w64 (x23 + x26))), .cell (.int .i64 x24)]))]⟩
def f153_p8_1_x : (Int × Int) → GExit := fun (y0, y1) => .normal
def f153_p8_1_s (x17 x23 : Int) (x26 x19 : Int) (x25 : List ((Int × (Int × (Int × Unit))) × (Int × (Int × Unit)))) (x5 : LL) (x6 x1 : Int) (x2 x3 : Int) (x20 x24 : Int) : (Int × Int) → GS := fun (y0, y1) => ⟨[(0, (.r (.at (.ptr 25 0 0)))), (3, (.r (.at (.ptr 26 0 0)))), (4, (.r (.at (.ptr 27 0 0)))), (7, (.r (.at (.ptr 29 0 0)))), (8, (GI x17))], [(24, (.mpb pMa pMb x25)), (25, (.var [.cell (.lst (.list (.int .i64)) x5 false), .cell (.int .i64 x6), .cell (.mp 24)])), (26, (.var [.cell (.int .i64 x1), .cell (.int .i64 x2), .cell (.int .u8 x3)])), (27, (.var [.cell (.int .i64 0), .cell (.int .i64 0)])), (29, (.var [.cell (.int .i64 y0), .cell (.int .i64 y1)]))]⟩
def f153_p8_1_P (x17 x23 : Int) (x26 x19 : Int) (x25 : List ((Int × (Int × (Int × Unit))) × (Int × (Int × Unit)))) (x5 : LL) (x6 x1 : Int) (x2 x3 : Int) (x20 x24 : Int) (r : Int × Int) : Prop := Ex cx f153_M 105 (part Tryd.f153 8) (f153_p8_1_H x17 x23 x26 x19 x25 x5 x6 x1 x2 x3 x20 x24) (f153_p8_1_x r) (f153_p8_1_s x17 x23 x26 x19 x25 x5 x6 x1 x2 x3 x20 x24 r)
def f153_p9_2_H (x17 x30 : Int) (x33 x19 : Int) (x32 : List ((Int × (Int × (Int × Unit))) × (Int × (Int × Unit)))) (x5 : LL) (x6 x1 : Int) (x2 x3 : Int) (x20 x31 : Int) : GS := ⟨[(0, (.r (.at (.ptr 25 0 0)))), (3, (.r (.at (.ptr 26 0 0)))), (4, (.r (.at (.ptr 27 0 0)))), (7, (.r (.at (.ptr 29 0 0)))), (8, (GI x17)), (11, (.r (.at (.ptr 30 0 0)))), (86, (.r (.at (.bool ((w64 (x30 + x33)) == x19)))))], [(24, (.mpb pMa pMb x32)), (25, (.var [.cell (.lst (.list (.int .i64)) x5 false), .cell (.int .i64 x6), .cell (.mp 24)])), (26, (.var [.cell (.int .i64 x1), .cell (.int .i64 x2), .cell (.int .u8 x3)])), (27, (.var [.cell (.int .i64 0), .cell (.int .i64 0)])), (29, (.var [.cell (.int .i64 x19), .cell (.int .i64 x20)])), (30, (.var [.cell (.int .i64 (w64 (x30 + x33))), .cell (.int .i64 x31)]))]⟩
def f153_p9_2_x : Int → GExit := fun y0 => .normal
def f153_p9_2_s (x17 x30 : Int) (x33 x19 : Int) (x32 : List ((Int × (Int × (Int × Unit))) × (Int × (Int × Unit)))) (x5 : LL) (x6 x1 : Int) (x2 x3 : Int) (x20 x31 : Int) : Int → GS := fun y0 => ⟨[(0, (.r (.at (.ptr 25 0 0)))), (3, (.r (.at (.ptr 26 0 0)))), (4, (.r (.at (.ptr 27 0 0)))), (7, (.r (.at (.ptr 29 0 0)))), (8, (GI x17))], [(24, (.mpb pMa pMb x32)), (25, (.var [.cell (.lst (.list (.int .i64)) x5 false), .cell (.int .i64 x6), .cell (.mp 24)])), (26, (.var [.cell (.int .i64 x1), .cell (.int .i64 x2), .cell (.int .u8 x3)])), (27, (.var [.cell (.int .i64 0), .cell (.int .i64 0)])), (29, (.var [.cell (.int .i64 x19), .cell (.int .i64 y0)]))]⟩
def f153_p9_2_P (x17 x30 : Int) (x33 x19 : Int) (x32 : List ((Int × (Int × (Int × Unit))) × (Int × (Int × Unit)))) (x5 : LL) (x6 x1 : Int) (x2 x3 : Int) (x20 x31 : Int) (r : Int) : Prop := Ex cx f153_M 105 (part Tryd.f153 9) (f153_p9_2_H x17 x30 x33 x19 x32 x5 x6 x1 x2 x3 x20 x31) (f153_p9_2_x r) (f153_p9_2_s x17 x30 x33 x19 x32 x5 x6 x1 x2 x3 x20 x31 r)
def f153_p8_2_H (x17 x30 : Int) (x33 x19 : Int) (x32 : List ((Int × (Int × (Int × Unit))) × (Int × (Int × Unit)))) (x5 : LL) (x6 x1 : Int) (x2 x3 : Int) (x20 x31 : Int) : GS := ⟨[(0, (.r (.at (.ptr 25 0 0)))), (3, (.r (.at (.ptr 26 0 0)))), (4, (.r (.at (.ptr 27 0 0)))), (7, (.r (.at (.ptr 29 0 0)))), (8, (GI x17)), (11, (.r (.at (.ptr 30 0 0)))), (79, (.r (.at (.bool (decide ((w64 (x30 + x33)) > x19))))))], [(24, (.mpb pMa pMb x32)), (25, (.var [.cell (.lst (.list (.int .i64)) x5 false), .cell (.int .i64 x6), .cell (.mp 24)])), (26, (.var [.cell (.int .i64 x1), .cell (.int .i64 x2), .cell (.int .u8 x3)])), (27, (.var [.cell (.int .i64 0), .cell (.int .i64 0)])), (29, (.var [.cell (.int .i64 x19), .cell (.int .i64 x20)])), (30, (.var [.cell (.int .i64 (w64 (x30 + x33))), .cell (.int .i64 x31)]))]⟩
def f153_p8_2_x : (Int × Int) → GExit := fun (y0, y1) => .normal
def f153_p8_2_s (x17 x30 : Int) (x33 x19 : Int) (x32 : List ((Int × (Int × (Int × Unit))) × (Int × (Int × Unit)))) (x5 : LL) (x6 x1 : Int) (x2 x3 : Int) (x20 x31 : Int) : (Int × Int) → GS := fun (y0, y1) => ⟨[(0, (.r (.at (.ptr 25 0 0)))), (3, (.r (.at (.ptr 26 0 0)))), (4, (.r (.at (.ptr 27 0 0)))), (7, (.r (.at (.ptr 29 0 0)))), (8, (GI x17))], [(24, (.mpb pMa pMb x32)), (25, (.var [.cell (.lst (.list (.int .i64)) x5 false), .cell (.int .i64 x6), .cell (.mp 24)])), (26, (.var [.cell (.int .i64 x1), .cell (.int .i64 x2), .cell (.int .u8 x3)])), (27, (.var [.cell (.int .i64 0), .cell (.int .i64 0)])), (29, (.var [.cell (.int .i64 y0), .cell (.int .i64 y1)]))]⟩
def f153_p8_2_P (x17 x30 : Int) (x33 x19 : Int) (x32 : List ((Int × (Int × (Int × Unit))) × (Int × (Int × Unit)))) (x5 : LL) (x6 x1 : Int) (x2 x3 : Int) (x20 x31 : Int) (r : Int × Int) : Prop := Ex cx f153_M 105 (part Tryd.f153 8) (f153_p8_2_H x17 x30 x33 x19 x32 x5 x6 x1 x2 x3 x20 x31) (f153_p8_2_x r) (f153_p8_2_s x17 x30 x33 x19 x32 x5 x6 x1 x2 x3 x20 x31 r)
def f153_p3_H (x5 : LL) (x6 x1 : Int) (x2 x3 x17 : Int) (x18 : List ((Int × (Int × (Int × Unit))) × (Int × (Int × Unit)))) (x19 x20 : Int) : GS := ⟨[(0, (.r (.at (.ptr 25 0 0)))), (3, (.r (.at (.ptr 26 0 0)))), (4, (.r (.at (.ptr 27 0 0)))), (7, (.r (.at (.ptr 29 0 0)))), (8, (GI x17))], [(24, (.mpb pMa pMb x18)), (25, (.var [.cell (.lst (.list (.int .i64)) x5 false), .cell (.int .i64 x6), .cell (.mp 24)])), (26, (.var [.cell (.int .i64 x1), .cell (.int .i64 x2), .cell (.int .u8 x3)])), (27, (.var [.cell (.int .i64 0), .cell (.int .i64 0)])), (29, (.var [.cell (.int .i64 x19), .cell (.int .i64 x20)]))]⟩
def f153_p3_x : ((List ((Int × (Int × (Int × Unit))) × (Int × (Int × Unit)))) × Int × Int) → GExit := fun (y0, y1, y2) => (.exit 0)
def f153_p3_s (x5 : LL) (x6 x1 : Int) (x2 x3 : Int) : ((List ((Int × (Int × (Int × Unit))) × (Int × (Int × Unit)))) × Int × Int) → GS := fun (y0, y1, y2) => ⟨[(0, (.r (.at (.ptr 25 0 0)))), (3, (.r (.at (.ptr 26 0 0)))), (4, (.r (.at (.ptr 27 0 0)))), (7, (.r (.at (.ptr 29 0 0))))], [(24, (.mpb pMa pMb y0)), (25, (.var [.cell (.lst (.list (.int .i64)) x5 false), .cell (.int .i64 x6), .cell (.mp 24)])), (26, (.var [.cell (.int .i64 x1), .cell (.int .i64 x2), .cell (.int .u8 x3)])), (27, (.var [.cell (.int .i64 0), .cell (.int .i64 0)])), (29, (.var [.cell (.int .i64 y1), .cell (.int .i64 y2)]))]⟩
def f153_p3_P (x5 : LL) (x6 x1 : Int) (x2 x3 x17 : Int) (x18 : List ((Int × (Int × (Int × Unit))) × (Int × (Int × Unit)))) (x19 x20 : Int) (r : (List ((Int × (Int × (Int × Unit))) × (Int × (Int × Unit)))) × Int × Int) : Prop := Lp cx f153_M 105 (part Tryd.f153 3) (f153_p3_H x5 x6 x1 x2 x3 x17 x18 x19 x20) (f153_p3_x r) (f153_p3_s x5 x6 x1 x2 x3 r)
def f153_v : (Int × Int × (List ((Int × (Int × (Int × Unit))) × (Int × (Int × Unit))))) → G := fun (y0, y1, y2) => (.r (.agg [.cell (.int .i64 y0), .cell (.int .i64 y1)]))
def f153_k0 : (Int × Int × (List ((Int × (Int × (Int × Unit))) × (Int × (Int × Unit))))) → List (Nat × Blk) := fun (y0, y1, y2) => [(24, (.mpb pMa pMb y2))]
def f153_k (x1 x2 x3 : Int) (x4 : List ((Int × (Int × (Int × Unit))) × (Int × (Int × Unit)))) (x5 : LL) (x6 : Int) : (Int × Int × (List ((Int × (Int × (Int × Unit))) × (Int × (Int × Unit))))) → List (Nat × Blk) := fun (y0, y1, y2) => [(24, (.mpb pMa pMb y2)), (25, (.var [.cell (.lst (.list (.int .i64)) x5 false), .cell (.int .i64 x6), .cell (.mp 24)]))]
def f153_A (x1 x2 x3 : Int) (x4 : List ((Int × (Int × (Int × Unit))) × (Int × (Int × Unit)))) (x5 : LL) (x6 : Int) : List G := [(.r (.at (.ptr 25 0 0))), (.r (.agg [.cell (.int .i64 x1), .cell (.int .i64 x2), .cell (.int .u8 x3)]))]
def f153_K (x1 x2 x3 : Int) (x4 : List ((Int × (Int × (Int × Unit))) × (Int × (Int × Unit)))) (x5 : LL) (x6 : Int) : List (Nat × Blk) := [(24, (.mpb pMa pMb x4)), (25, (.var [.cell (.lst (.list (.int .i64)) x5 false), .cell (.int .i64 x6), .cell (.mp 24)]))]
def f153_C (x1 x2 x3 : Int) (x4 : List ((Int × (Int × (Int × Unit))) × (Int × (Int × Unit)))) (x5 : LL) (x6 : Int) (r : Int × Int × (List ((Int × (Int × (Int × Unit))) × (Int × (Int × Unit))))) : Prop := CallOK cx 153 (f153_A x1 x2 x3 x4 x5 x6) (f153_K x1 x2 x3 x4 x5 x6) [] (f153_v r) (f153_k x1 x2 x3 x4 x5 x6 r)

def f152_1_M : List Nat := [31]
def f152_1_p5_2_H (x64 : Int) (x2 : LL) (x3 x79 x80 : Int) (x81 : List ((Int × (Int × (Int × Unit))) × (Int × (Int × Unit)))) (x78 : LI) : GS := ⟨[(0, (.r (.at (.ptr 25 0 0)))), (3, (.r (.at (.int .u8 x79)))), (4, (.r (.at (.sl 31 0 (List.length x78))))), (5, (GI x64)), (6, (GI x80)), (15, (.r (.at (.int .i64 (LN x2))))), (16, (GI x64))], [(24, (.mpb pMa pMb x81)), (25, (.var [.cell (.lst (.list (.int .i64)) x2 false), .cell (.int .i64 x3), .cell (.mp 24)])), (31, (.gr (.int .i64) 3 x78 true))]⟩
def f152_1_p5_2_x : (Int × (List ((Int × (Int × (Int × Unit))) × (Int × (Int × Unit)))) × (List Int)) → GExit := fun (y0, y1, y2) => (.exit 2)
def f152_1_p5_2_s (x64 : Int) (x2 : LL) (x3 : Int) : (Int × (List ((Int × (Int × (Int × Unit))) × (Int × (Int × Unit)))) × (List Int)) → GS := fun (y0, y1, y2) => ⟨[(0, (.r (.at (.ptr 25 0 0)))), (3, (.r (.at (.int .u8 y0)))), (4, (.r (.at (.sl 31 0 (List.length y2))))), (15, (.r (.at (.int .i64 (LN x2))))), (16, (GI x64))], [(24, (.mpb pMa pMb y1)), (25, (.var [.cell (.lst (.list (.int .i64)) x2 false), .cell (.int .i64 x3), .cell (.mp 24)])), (31, (.gr (.int .i64) 3 y2 true))]⟩
def f152_1_p5_2_P (x64 : Int) (x2 : LL) (x3 x79 x80 : Int) (x81 : List ((Int × (Int × (Int × Unit))) × (Int × (Int × Unit)))) (x78 : LI) (r : Int × (List ((Int × (Int × (Int × Unit))) × (Int × (Int × Unit)))) × (List Int)) : Prop := Lp cx f152_1_M 62 (part Tryd.f152 5) (f152_1_p5_2_H x64 x2 x3 x79 x80 x81 x78) (f152_1_p5_2_x r) (f152_1_p5_2_s x64 x2 x3 r)
def f152_1_p1_H (x2 : LL) (x3 x63 x64 : Int) (x65 : List ((Int × (Int × (Int × Unit))) × (Int × (Int × Unit)))) (x62 : LI) : GS := ⟨[(0, (.r (.at (.ptr 25 0 0)))), (3, (.r (.at (.int .u8 x63)))), (4, (.r (.at (.sl 31 0 (List.length x62))))), (15, (.r (.at (.int .i64 (LN x2))))), (16, (GI x64))], [(24, (.mpb pMa pMb x65)), (25, (.var [.cell (.lst (.list (.int .i64)) x2 false), .cell (.int .i64 x3), .cell (.mp 24)])), (31, (.gr (.int .i64) 3 x62 true))]⟩
def f152_1_p1_x : ((List ((Int × (Int × (Int × Unit))) × (Int × (Int × Unit)))) × (List Int)) → GExit := fun (y0, y1) => (.exit 0)
def f152_1_p1_s (x2 : LL) (x3 : Int) : ((List ((Int × (Int × (Int × Unit))) × (Int × (Int × Unit)))) × (List Int)) → GS := fun (y0, y1) => ⟨[(4, (.r (.at (.sl 31 0 (List.length y1)))))], [(24, (.mpb pMa pMb y0)), (25, (.var [.cell (.lst (.list (.int .i64)) x2 false), .cell (.int .i64 x3), .cell (.mp 24)])), (31, (.gr (.int .i64) 3 y1 true))]⟩
def f152_1_p1_P (x2 : LL) (x3 x63 x64 : Int) (x65 : List ((Int × (Int × (Int × Unit))) × (Int × (Int × Unit)))) (x62 : LI) (r : (List ((Int × (Int × (Int × Unit))) × (Int × (Int × Unit)))) × (List Int)) : Prop := Lp cx f152_1_M 62 (part Tryd.f152 1) (f152_1_p1_H x2 x3 x63 x64 x65 x62) (f152_1_p1_x r) (f152_1_p1_s x2 x3 r)
def f152_1_v : ((List Int) × (List ((Int × (Int × (Int × Unit))) × (Int × (Int × Unit))))) → G := fun (y0, y1) => (GL y0)
def f152_1_k0 : ((List Int) × (List ((Int × (Int × (Int × Unit))) × (Int × (Int × Unit))))) → List (Nat × Blk) := fun (y0, y1) => [(24, (.mpb pMa pMb y1))]
def f152_1_k (x1 : List ((Int × (Int × (Int × Unit))) × (Int × (Int × Unit)))) (x2 : LL) (x3 : Int) : ((List Int) × (List ((Int × (Int × (Int × Unit))) × (Int × (Int × Unit))))) → List (Nat × Blk) := fun (y0, y1) => [(24, (.mpb pMa pMb y1)), (25, (.var [.cell (.lst (.list (.int .i64)) x2 false), .cell (.int .i64 x3), .cell (.mp 24)]))]
def f152_1_A (x1 : List ((Int × (Int × (Int × Unit))) × (Int × (Int × Unit)))) (x2 : LL) (x3 : Int) : List G := [(.r (.at (.ptr 25 0 0)))]
def f152_1_K (x1 : List ((Int × (Int × (Int × Unit))) × (Int × (Int × Unit)))) (x2 : LL) (x3 : Int) : List (Nat × Blk) := [(24, (.mpb pMa pMb x1)), (25, (.var [.cell (.lst (.list (.int .i64)) x2 false), .cell (.int .i64 x3), .cell (.mp 24)]))]
def f152_1_C (x1 : List ((Int × (Int × (Int × Unit))) × (Int × (Int × Unit)))) (x2 : LL) (x3 : Int) (r : (List Int) × (List ((Int × (Int × (Int × Unit))) × (Int × (Int × Unit))))) : Prop := CallOK cx 152 (f152_1_A x1 x2 x3) (f152_1_K x1 x2 x3) [] (f152_1_v r) (f152_1_k x1 x2 x3 r)

def f145_M : List Nat := []
def f145_v : (Int × (List ((Int × (Int × (Int × Unit))) × (Int × (Int × Unit))))) → G := fun (y0, y1) => (GI y0)
def f145_k0 : (Int × (List ((Int × (Int × (Int × Unit))) × (Int × (Int × Unit))))) → List (Nat × Blk) := fun (y0, y1) => [(24, (.mpb pMa pMb y1))]
def f145_k (x1 x2 : Int) (x3 : List ((Int × (Int × (Int × Unit))) × (Int × (Int × Unit)))) (x4 : LL) (x5 : Int) : (Int × (List ((Int × (Int × (Int × Unit))) × (Int × (Int × Unit))))) → List (Nat × Blk) := fun (y0, y1) => [(24, (.mpb pMa pMb y1)), (25, (.var [.cell (.lst (.list (.int .i64)) x4 false), .cell (.int .i64 x5), .cell (.mp 24)]))]
def f145_A (x1 x2 : Int) (x3 : List ((Int × (Int × (Int × Unit))) × (Int × (Int × Unit)))) (x4 : LL) (x5 : Int) : List G := [(.r (.at (.ptr 25 0 0))), (GI x1), (GI x2)]
def f145_K (x1 x2 : Int) (x3 : List ((Int × (Int × (Int × Unit))) × (Int × (Int × Unit)))) (x4 : LL) (x5 : Int) : List (Nat × Blk) := [(24, (.mpb pMa pMb x3)), (25, (.var [.cell (.lst (.list (.int .i64)) x4 false), .cell (.int .i64 x5), .cell (.mp 24)]))]
def f145_C (x1 x2 : Int) (x3 : List ((Int × (Int × (Int × Unit))) × (Int × (Int × Unit)))) (x4 : LL) (x5 : Int) (r : Int × (List ((Int × (Int × (Int × Unit))) × (Int × (Int × Unit))))) : Prop := CallOK cx 145 (f145_A x1 x2 x3 x4 x5) (f145_K x1 x2 x3 x4 x5) [] (f145_v r) (f145_k x1 x2 x3 x4 x5 r)

def f144_M : List Nat := [24, 25, 32]
def f144_p2_H (x7 : LI) (x5 : LL) (x6 x19 : Int) (x20 : List ((Int × (Int × (Int × Unit))) × (Int × (Int × Unit)))) (x18 : LI) : GS := ⟨[(1, (.r (.at (.fn 145)))), (6, (.r (.at (.ptr 25 0 0)))), (8, (.r (.at (.sl 32 0 (List.length x18))))), (20, (GL x7)), (21, (.r (.at (.int .i64 (LN x7))))), (22, (GI x19))], [(24, (.mpb pMa pMb x20)), (25, (.var [.cell (.lst (.list (.int .i64)) x5 false), .cell (.int .i64 x6), .cell (.mp 24)])), (32, (.gr (.int .i64) 3 x18 true))]⟩
def f144_p2_x : (List Int) → GExit := fun y0 => (.exit 0)
def f144_p2_s (x7 : LI) (x5 : LL) (x6 : Int) : (List Int) → GS := fun y0 => ⟨[(8, (.r (.at (.sl 32 0 (List.length y0)))))], [(32, (.gr (.int .i64) 3 y0 true))]⟩
def f144_p2_P (x7 : LI) (x5 : LL) (x6 x19 : Int) (x20 : List ((Int × (Int × (Int × Unit))) × (Int × (Int × Unit)))) (x18 : LI) (r : (List Int)) : Prop := Lp cx f144_M 37 (part Tryd.f144 2) (f144_p2_H x7 x5 x6 x19 x20 x18) (f144_p2_x r) (f144_p2_s x7 x5 x6 r)
def f144_v : ((List Int) × Int) → G := fun (y0, y1) => (.tup [(.at (.lst (.int .i64) y0 false)), (.at (.int .i64 y1))])
def f144_k0 : ((List Int) × Int) → List (Nat × Blk) := fun (y0, y1) => []
def f144_k (x1 : LL) : ((List Int) × Int) → List (Nat × Blk) := fun (y0, y1) => []
def f144_A (x1 : LL) : List G := [(.r (.at (.lst (.list (.int .i64)) x1 false))), (.r (.at (.fn 145)))]
def f144_K (x1 : LL) : List (Nat × Blk) := []
def f144_C (x1 : LL) (r : (List Int) × Int) : Prop := CallOK cx 144 (f144_A x1) (f144_K x1) [] (f144_v r) (f144_k x1 r)

def f133_M : List Nat := []
def f133_v : ((List Int) × Int) → G := fun (y0, y1) => (.tup [(.at (.lst (.int .i64) y0 false)), (.at (.int .i64 y1))])
def f133_k0 : ((List Int) × Int) → List (Nat × Blk) := fun (y0, y1) => []
def f133_k (x1 : LL) : ((List Int) × Int) → List (Nat × Blk) := fun (y0, y1) => []
def f133_A (x1 : LL) : List G := [(.r (.at (.lst (.list (.int .i64)) x1 false)))]
def f133_K (x1 : LL) : List (Nat × Blk) := []
def f133_C (x1 : LL) (r : (List Int) × Int) : Prop := CallOK cx 133 (f133_A x1) (f133_K x1) [] (f133_v r) (f133_k x1 r)

def f77_M : List Nat := []
def f77_v : Bool → G := fun y0 => (GB y0)
def f77_k0 : Bool → List (Nat × Blk) := fun y0 => []
def f77_k (x1 x2 x3 : Int) : Bool → List (Nat × Blk) := fun y0 => []
def f77_A (x1 x2 x3 : Int) : List G := [(GI x1), (GI x2), (GI x3)]
def f77_K (x1 x2 x3 : Int) : List (Nat × Blk) := []
def f77_C (x1 x2 x3 : Int) (r : Bool) : Prop := CallOK cx 77 (f77_A x1 x2 x3) (f77_K x1 x2 x3) [] (f77_v r) (f77_k x1 x2 x3 r)

def f113_M : List Nat := []
def f113_p0_H (x1 : Int) (x2 : Bool) : GS := ⟨[(0, (GI x1)), (5, (GB x2))], []⟩
def f113_p0_x : Int → GExit := fun y0 => .normal
def f113_p0_s (x1 : Int) (x2 : Bool) : Int → GS := fun y0 => ⟨[(0, (GI y0))], []⟩
def f113_p0_P (x1 : Int) (x2 : Bool) (r : Int) : Prop := Ex cx f113_M 9 (part Tryd.f113 0) (f113_p0_H x1 x2) (f113_p0_x r) (f113_p0_s x1 x2 r)
def f113_v : Int → G := fun y0 => (GI y0)
def f113_k0 : Int → List (Nat × Blk) := fun y0 => []
def f113_k (x1 : Int) (x2 : Bool) : Int → List (Nat × Blk) := fun y0 => []
def f113_A (x1 : Int) (x2 : Bool) : List G := [(GI x1), (GB x2)]
def f113_K (x1 : Int) (x2 : Bool) : List (Nat × Blk) := []
def f113_C (x1 : Int) (x2 : Bool) (r : Int) : Prop := CallOK cx 113 (f113_A x1 x2) (f113_K x1 x2) [] (f113_v r) (f113_k x1 x2 r)

def f76_M : List Nat := []
def f76_v : Int → G := fun y0 => (GI y0)
def f76_k0 : Int → List (Nat × Blk) := fun y0 => []
def f76_k (x1 x2 : Int) (x3 : Bool) (x4 x5 : LI) : Int → List (Nat × Blk) := fun y0 => [(36, (.var [.cell (.int .i64 x2), .cell (.bool x3), .arr (.int .i64) 16 x4, .arr (.int .i64) 9 x5]))]
def f76_A (x1 x2 : Int) (x3 : Bool) (x4 x5 : LI) : List G := [(.r (.at (.ptr 36 0 0))), (GI x1)]
def f76_K (x1 x2 : Int) (x3 : Bool) (x4 x5 : LI) : List (Nat × Blk) := [(36, (.var [.cell (.int .i64 x2), .cell (.bool x3), .arr (.int .i64) 16 x4, .arr (.int .i64) 9 x5]))]
def f76_C (x1 x2 : Int) (x3 : Bool) (x4 x5 : LI) (r : Int) : Prop := CallOK cx 76 (f76_A x1 x2 x3 x4 x5) (f76_K x1 x2 x3 x4 x5) [] (f76_v r) (f76_k x1 x2 x3 x4 x5 r)

def f108_M : List Nat := [35, 36, 37, 38]
def f108_p4_H (x1 : Int) (x2 : Bool) (x3 : LI) (x6 x7 : Int) (x8 : Bool) (x9 x10 : LI) : GS := ⟨[(1, (.r (.at (.ptr 35 0 0)))), (4, (.r (.at (.ptr 36 0 0)))), (5, (.r (.at (.ptr 37 0 0)))), (6, (.r (.at (.ptr 38 0 0)))), (30, (GI x6))], [(35, (.var [.cell (.int .i64 x1), .cell (.bool x2), .cell (.lst (.int .i64) x3 false)])), (36, (.var [.cell (.int .i64 x7), .cell (.bool x8), .arr (.int .i64) 16 x9, .arr (.int .i64) 9 x10])), (37, (.var [.arr (.int .i64) 9 ((List.replicate 9 0) : List Int)])), (38, (.var [.arr (.int .i64) 9 ((List.replicate 9 0) : List Int)]))]⟩
def f108_p4_x : (Int × Bool × (List Int) × (List Int)) → GExit := fun (y0, y1, y2, y3) => (.exit 1)
def f108_p4_s (x1 : Int) (x2 : Bool) (x3 : LI) : (Int × Bool × (List Int) × (List Int)) → GS := fun (y0, y1, y2, y3) => ⟨[(1, (.r (.at (.ptr 35 0 0)))), (4, (.r (.at (.ptr 36 0 0)))), (5, (.r (.at (.ptr 37 0 0)))), (6, (.r (.at (.ptr 38 0 0))))], [(35, (.var [.cell (.int .i64 x1), .cell (.bool x2), .cell (.lst (.int .i64) x3 false)])), (36, (.var [.cell (.int .i64 y0), .cell (.bool y1), .arr (.int .i64) 16 y2, .arr (.int .i64) 9 y3])), (37, (.var [.arr (.int .i64) 9 ((List.replicate 9 0) : List Int)])), (38, (.var [.arr (.int .i64) 9 ((List.replicate 9 0) : List Int)]))]⟩
def f108_p4_P (x1 : Int) (x2 : Bool) (x3 : LI) (x6 x7 : Int) (x8 : Bool) (x9 x10 : LI) (r : Int × Bool × (List Int) × (List Int)) : Prop := Lp cx f108_M 108 (part Tryd.f108 4) (f108_p4_H x1 x2 x3 x6 x7 x8 x9 x10) (f108_p4_x r) (f108_p4_s x1 x2 x3 r)
def f108_p12_1_H (x21 x28 : Int) (x3 : LI) (x31 x1 : Int) (x2 : Bool) (x22 : Int) (x23 : Bool) (x24 x25 x26 : LI) (x30 : Int) (x27 : LI) : GS := ⟨[(1, (.r (.at (.ptr 35 0 0)))), (4, (.r (.at (.ptr 36 0 0)))), (5, (.r (.at (.ptr 37 0 0)))), (6, (.r (.at (.ptr 38 0 0)))), (8, (GI x21)), (9, (GI x28)), (40, (GL x3)), (41, (.r (.at (.int .i64 (LN x3))))), (42, (GI x21)), (60, (.r (.at (.bool (x31 == 1)))))], [(35, (.var [.cell (.int .i64 x1), .cell (.bool x2), .cell (.lst (.int .i64) x3 false)])), (36, (.var [.cell (.int .i64 x22), .cell (.bool x23), .arr (.int .i64) 16 x24, .arr (.int .i64) 9 x25])), (37, (.var [.arr (.int .i64) 9 ((List.set x26 (0 + ((Int.toNat x28) * 1)) (w64 (x30 + 1))) : List Int)])), (38, (.var [.arr (.int .i64) 9 x27]))]⟩
def f108_p12_1_x : (List Int) → GExit := fun y0 => .normal
def f108_p12_1_s (x21 x28 : Int) (x3 : LI) (x31 x1 : Int) (x2 : Bool) (x22 : Int) (x23 : Bool) (x24 x25 x26 : LI) (x30 : Int) (x27 : LI) : (List Int) → GS := fun y0 => ⟨[(1, (.r (.at (.ptr 35 0 0)))), (4, (.r (.at (.ptr 36 0 0)))), (5, (.r (.at (.ptr 37 0 0)))), (6, (.r (.at (.ptr 38 0 0)))), (8, (GI x21)), (9, (GI x28)), (40, (GL x3)), (41, (.r (.at (.int .i64 (LN x3))))), (42, (GI x21))], [(35, (.var [.cell (.int .i64 x1), .cell (.bool x2), .cell (.lst (.int .i64) x3 false)])), (36, (.var [.cell (.int .i64 x22), .cell (.bool x23), .arr (.int .i64) 16 x24, .arr (.int .i64) 9 y0])), (37, (.var [.arr (.int .i64) 9 ((List.set x26 (0 + ((Int.toNat x28) * 1)) (w64 (x30 + 1))) : List Int)])), (38, (.var [.arr (.int .i64) 9 x27]))]⟩
def f108_p12_1_P (x21 x28 : Int) (x3 : LI) (x31 x1 : Int) (x2 : Bool) (x22 : Int) (x23 : Bool) (x24 x25 x26 : LI) (x30 : Int) (x27 : LI) (r : (List Int)) : Prop := Ex cx f108_M 108 (part Tryd.f108 12) (f108_p12_1_H x21 x28 x3 x31 x1 x2 x22 x23 x24 x25 x26 x30 x27) (f108_p12_1_x r) (f108_p12_1_s x21 x28 x3 x31 x1 x2 x22 x23 x24 x25 x26 x30 x27 r)
def f108_p8_H (x3 : LI) (x1 : Int) (x2 : Bool) (x21 x22 : Int) (x23 : Bool) (x24 x25 : LI) (x26 x27 : LI) : GS := ⟨[(1, (.r (.at (.ptr 35 0 0)))), (4, (.r (.at (.ptr 36 0 0)))), (5, (.r (.at (.ptr 37 0 0)))), (6, (.r (.at (.ptr 38 0 0)))), (40, (GL x3)), (41, (.r (.at (.int .i64 (LN x3))))), (42, (GI x21))], [(35, (.var [.cell (.int .i64 x1), .cell (.bool x2), .cell (.lst (.int .i64) x3 false)])), (36, (.var [.cell (.int .i64 x22), .cell (.bool x23), .arr (.int .i64) 16 x24, .arr (.int .i64) 9 x25])), (37, (.var [.arr (.int .i64) 9 x26])), (38, (.var [.arr (.int .i64) 9 x27]))]⟩
def f108_p8_x : f108_p8_R → GExit := fun
 | .c0 => .ret
 | .c1 y0 y1 y2 y3 y4 y5 => (.exit 3)
def f108_p8_s (x3 : LI) (x1 : Int) (x2 : Bool) : f108_p8_R → GS := fun
 | .c0 => ⟨[(2, (.r (.at .nilp))), (3, (.r (.at (.int .i64 2))))], []⟩
 | .c1 y0 y1 y2 y3 y4 y5 => ⟨[(1, (.r (.at (.ptr 35 0 0)))), (4, (.r (.at (.ptr 36 0 0)))), (5, (.r (.at (.ptr 37 0 0)))), (6, (.r (.at (.ptr 38 0 0))))], [(35, (.var [.cell (.int .i64 x1), .cell (.bool x2), .cell (.lst (.int .i64) x3 false)])), (36, (.var [.cell (.int .i64 y0), .cell (.bool y1), .arr (.int .i64) 16 y2, .arr (.int .i64) 9 y3])), (37, (.var [.arr (.int .i64) 9 y4])), (38, (.var [.arr (.int .i64) 9 y5]))]⟩
def f108_p8_P (x3 : LI) (x1 : Int) (x2 : Bool) (x21 x22 : Int) (x23 : Bool) (x24 x25 : LI) (x26 x27 : LI) (r : f108_p8_R) : Prop := Lp cx f108_M 108 (part Tryd.f108 8) (f108_p8_H x3 x1 x2 x21 x22 x23 x24 x25 x26 x27) (f108_p8_x r) (f108_p8_s x3 x1 x2 r)
def f108_p14_H (x1 : Int) (x2 : Bool) (x3 : LI) (x33 : Int) (x34 : Bool) (x35 x36 : LI) (x37 x38 : LI) (x39 : Int) : GS := ⟨[(1, (.r (.at (.ptr 35 0 0)))), (4, (.r (.at (.ptr 36 0 0)))), (5, (.r (.at (.ptr 37 0 0)))), (6, (.r (.at (.ptr 38 0 0)))), (10, (GI x39))], [(35, (.var [.cell (.int .i64 x1), .cell (.bool x2), .cell (.lst (.int .i64) x3 false)])), (36, (.var [.cell (.int .i64 x33), .cell (.bool x34), .arr (.int .i64) 16 x35, .arr (.int .i64) 9 x36])), (37, (.var [.arr (.int .i64) 9 x37])), (38, (.var [.arr (.int .i64) 9 x38]))]⟩
def f108_p14_x : f108_p14_R → GExit := fun
 | .c0 y0 => .ret
 | .c1 => (.exit 5)
def f108_p14_s (x1 : Int) (x2 : Bool) (x3 : LI) (x33 : Int) (x34 : Bool) (x35 x36 : LI) (x37 x38 : LI) : f108_p14_R → GS := fun
 | .c0 y0 => ⟨[(2, (.r (.at .nilp))), (3, (GI y0))], []⟩
 | .c1 => ⟨[(4, (.r (.at (.ptr 36 0 0))))], [(36, (.var [.cell (.int .i64 x33), .cell (.bool x34), .arr (.int .i64) 16 x35, .arr (.int .i64) 9 x36]))]⟩
def f108_p14_P (x1 : Int) (x2 : Bool) (x3 : LI) (x33 : Int) (x34 : Bool) (x35 x36 : LI) (x37 x38 : LI) (x39 : Int) (r : f108_p14_R) : Prop := Lp cx f108_M 108 (part Tryd.f108 14) (f108_p14_H x1 x2 x3 x33 x34 x35 x36 x37 x38 x39) (f108_p14_x r) (f108_p14_s x1 x2 x3 x33 x34 x35 x36 x37 x38 r)
def f108_v : f108_R → G := fun
 | .c0 y0 => (.tup [(.at .nilp), (.at (.int .i64 y0))])
 | .c1 y0 y1 y2 y3 y4 => (.tup [(.at (.ptr 36 0 0)), (.at (.int .i64 y0))])
def f108_k0 : f108_R → List (Nat × Blk) := fun
 | .c0 y0 => []
 | .c1 y0 y1 y2 y3 y4 => [(36, (.var [.cell (.int .i64 y1), .cell (.bool y2), .arr (.int .i64) 16 y3, .arr (.int .i64) 9 y4]))]
def f108_k (x1 : Int) (x2 : Bool) (x3 : LI) : f108_R → List (Nat × Blk) := fun
 | .c0 y0 => []
 | .c1 y0 y1 y2 y3 y4 => [(36, (.var [.cell (.int .i64 y1), .cell (.bool y2), .arr (.int .i64) 16 y3, .arr (.int .i64) 9 y4]))]
def f108_A (x1 : Int) (x2 : Bool) (x3 : LI) : List G := [(.r (.agg [.cell (.int .i64 x1), .cell (.bool x2), .cell (.lst (.int .i64) x3 false)]))]
def f108_K (x1 : Int) (x2 : Bool) (x3 : LI) : List (Nat × Blk) := []
def f108_C (x1 : Int) (x2 : Bool) (x3 : LI) (r : f108_R) : Prop := CallOK cx 108 (f108_A x1 x2 x3) (f108_K x1 x2 x3) [] (f108_v r) (f108_k x1 x2 x3 r)

def f75_M : List Nat := [34, 36]
def f75_v : f75_R → G := fun
 | .c0 y0 => (.tup [(.at .nilp), (.at (.int .i64 y0))])
 | .c1 y0 y1 y2 y3 y4 => (.tup [(.at (.ptr 36 0 0)), (.at (.int .i64 y0))])
def f75_k0 : f75_R → List (Nat × Blk) := fun
 | .c0 y0 => []
 | .c1 y0 y1 y2 y3 y4 => [(36, (.var [.cell (.int .i64 y1), .cell (.bool y2), .arr (.int .i64) 16 y3, .arr (.int .i64) 9 y4]))]
def f75_k (x1 : Int) (x2 : Bool) (x3 : LI) (x4 : Int) : f75_R → List (Nat × Blk) := fun
 | .c0 y0 => []
 | .c1 y0 y1 y2 y3 y4 => [(36, (.var [.cell (.int .i64 y1), .cell (.bool y2), .arr (.int .i64) 16 y3, .arr (.int .i64) 9 y4]))]
def f75_A (x1 : Int) (x2 : Bool) (x3 : LI) (x4 : Int) : List G := [(.r (.agg [.cell (.int .i64 x1), .cell (.bool x2), .cell (.lst (.int .i64) x3 false)])), (GI x4)]
def f75_K (x1 : Int) (x2 : Bool) (x3 : LI) (x4 : Int) : List (Nat × Blk) := []
def f75_C (x1 : Int) (x2 : Bool) (x3 : LI) (x4 : Int) (r : f75_R) : Prop := CallOK cx 75 (f75_A x1 x2 x3 x4) (f75_K x1 x2 x3 x4) [] (f75_v r) (f75_k x1 x2 x3 x4 r)

def f37_M : List Nat := [33, 36, 39]
def f37_p6_1_H (x4 x11 x12 : Int) (x18 : LI) (x19 : Int) (x22 x23 : Bool) (x7 : Int) (x8 : Bool) (x9 x10 : LI) : GS := ⟨[(1, (GI x4)), (6, (.r (.at (.ptr 36 0 0)))), (8, (GI x11)), (9, (GI x12)), (10, (.r (.at (.sl 39 0 (List.length x18))))), (11, (GI x19)), (69, (.r (.at (.bool (!(x22 == x23))))))], [(36, (.var [.cell (.int .i64 x7), .cell (.bool x8), .arr (.int .i64) 16 x9, .arr (.int .i64) 9 x10])), (39, (.gr (.int .i64) 3 x18 true))]⟩
def f37_p6_1_x : (List Int) → GExit := fun y0 => .normal
def f37_p6_1_s (x4 x11 x12 : Int) (x18 : LI) (x19 : Int) (x22 x23 : Bool) (x7 : Int) (x8 : Bool) (x9 x10 : LI) : (List Int) → GS := fun y0 => ⟨[(1, (GI x4)), (6, (.r (.at (.ptr 36 0 0)))), (8, (GI x11)), (9, (GI x12)), (10, (.r (.at (.sl 39 0 (List.length y0))))), (11, (GI x19))], [(36, (.var [.cell (.int .i64 x7), .cell (.bool x8), .arr (.int .i64) 16 x9, .arr (.int .i64) 9 x10])), (39, (.gr (.int .i64) 3 y0 true))]⟩
def f37_p6_1_P (x4 x11 x12 : Int) (x18 : LI) (x19 : Int) (x22 x23 : Bool) (x7 : Int) (x8 : Bool) (x9 x10 : LI) (r : (List Int)) : Prop := Ex cx f37_M 75 (part Tryd.f37 6) (f37_p6_1_H x4 x11 x12 x18 x19 x22 x23 x7 x8 x9 x10) (f37_p6_1_x r) (f37_p6_1_s x4 x11 x12 x18 x19 x22 x23 x7 x8 x9 x10 r)
def f37_p2_H (x4 x11 : Int) (x12 x7 : Int) (x8 : Bool) (x9 x10 : LI) (x19 : Int) (x18 : LI) : GS := ⟨[(1, (GI x4)), (6, (.r (.at (.ptr 36 0 0)))), (8, (GI x11)), (9, (GI x12)), (10, (.r (.at (.sl 39 0 (List.length x18))))), (11, (GI x19))], [(36, (.var [.cell (.int .i64 x7), .cell (.bool x8), .arr (.int .i64) 16 x9, .arr (.int .i64) 9 x10])), (39, (.gr (.int .i64) 3 x18 true))]⟩
def f37_p2_x : (List Int) → GExit := fun y0 => (.exit 0)
def f37_p2_s (x4 x11 : Int) (x12 x7 : Int) (x8 : Bool) (x9 x10 : LI) : (List Int) → GS := fun y0 => ⟨[(10, (.r (.at (.sl 39 0 (List.length y0)))))], [(39, (.gr (.int .i64) 3 y0 true))]⟩
def f37_p2_P (x4 x11 : Int) (x12 x7 : Int) (x8 : Bool) (x9 x10 : LI) (x19 : Int) (x18 : LI) (r : (List Int)) : Prop := Lp cx f37_M 75 (part Tryd.f37 2) (f37_p2_H x4 x11 x12 x7 x8 x9 x10 x19 x18) (f37_p2_x r) (f37_p2_s x4 x11 x12 x7 x8 x9 x10 r)
def f37_v : ((List Int) × Int) → G := fun (y0, y1) => (.tup [(.at (.lst (.int .i64) y0 false)), (.at (.int .i64 y1))])
def f37_k0 : ((List Int) × Int) → List (Nat × Blk) := fun (y0, y1) => []
def f37_k (x1 : Int) (x2 : Bool) (x3 : LI) (x4 : Int) : ((List Int) × Int) → List (Nat × Blk) := fun (y0, y1) => []
def f37_A (x1 : Int) (x2 : Bool) (x3 : LI) (x4 : Int) : List G := [(.r (.agg [.cell (.int .i64 x1), .cell (.bool x2), .cell (.lst (.int .i64) x3 false)])), (GI x4)]
def f37_K (x1 : Int) (x2 : Bool) (x3 : LI) (x4 : Int) : List (Nat × Blk) := []
def f37_C (x1 : Int) (x2 : Bool) (x3 : LI) (x4 : Int) (r : (List Int) × Int) : Prop := CallOK cx 37 (f37_A x1 x2 x3 x4) (f37_K x1 x2 x3 x4) [] (f37_v r) (f37_k x1 x2 x3 x4 r)

def f57_M : List Nat := []
def f57_v : Bool → G := fun y0 => (GB y0)
def f57_k0 : Bool → List (Nat × Blk) := fun y0 => []
def f57_k (x1 x2 x3 : Int) : Bool → List (Nat × Blk) := fun y0 => []
def f57_A (x1 x2 x3 : Int) : List G := [(GI x1), (GI x2), (GI x3)]
def f57_K (x1 x2 x3 : Int) : List (Nat × Blk) := []
def f57_C (x1 x2 x3 : Int) (r : Bool) : Prop := CallOK cx 57 (f57_A x1 x2 x3) (f57_K x1 x2 x3) [] (f57_v r) (f57_k x1 x2 x3 r)

def f124_M : List Nat := []
def f124_p4_H (x1 : LI) (x2 x3 : Int) : GS := ⟨[(3, (GI x2)), (14, (GL x1)), (15, (.r (.at (.int .i64 (LN x1))))), (16, (GI x3))], []⟩
def f124_p4_x : f124_p4_R → GExit := fun
 | .c0 y0 => .ret
 | .c1 => (.exit 1)
def f124_p4_s (x1 : LI) : f124_p4_R → GS := fun
 | .c0 y0 => ⟨[(2, (GI y0))], []⟩
 | .c1 => ⟨[], []⟩
def f124_p4_P (x1 : LI) (x2 x3 : Int) (r : f124_p4_R) : Prop := Lp cx f124_M 30 (part Tryd.f124 4) (f124_p4_H x1 x2 x3) (f124_p4_x r) (f124_p4_s x1 r)
def f124_v : Int → G := fun y0 => (GI y0)
def f124_k0 : Int → List (Nat × Blk) := fun y0 => []
def f124_k (x1 : LI) : Int → List (Nat × Blk) := fun y0 => []
def f124_A (x1 : LI) : List G := [(GL x1)]
def f124_K (x1 : LI) : List (Nat × Blk) := []
def f124_C (x1 : LI) (r : Int) : Prop := CallOK cx 124 (f124_A x1) (f124_K x1) [] (f124_v r) (f124_k x1 r)

def f125_M : List Nat := []
def f125_p0_H (x1 : LI) : GS := ⟨[(0, (GL x1)), (7, (.r (.at (.bool (decide ((LN x1) < 1))))))], []⟩
def f125_p0_x : Unit → GExit := fun _ => .normal
def f125_p0_s (x1 : LI) : Unit → GS := fun _ => ⟨[(0, (GL x1))], []⟩
def f125_p0_P (x1 : LI) (r : Unit) : Prop := Ex cx f125_M 25 (part Tryd.f125 0) (f125_p0_H x1) (f125_p0_x r) (f125_p0_s x1 r)
def f125_p2_H (x1 : LI) (x3 x4 : Int) : GS := ⟨[(0, (GL x1)), (3, (GI x3)), (4, (GI x4))], []⟩
def f125_p2_x : Int → GExit := fun y0 => (.exit 0)
def f125_p2_s (x1 : LI) : Int → GS := fun y0 => ⟨[(3, (GI y0))], []⟩
def f125_p2_P (x1 : LI) (x3 x4 : Int) (r : Int) : Prop := Lp cx f125_M 25 (part Tryd.f125 2) (f125_p2_H x1 x3 x4) (f125_p2_x r) (f125_p2_s x1 r)
def f125_v : Int → G := fun y0 => (GI y0)
def f125_k0 : Int → List (Nat × Blk) := fun y0 => []
def f125_k (x1 : LI) : Int → List (Nat × Blk) := fun y0 => []
def f125_A (x1 : LI) : List G := [(GL x1)]
def f125_K (x1 : LI) : List (Nat × Blk) := []
def f125_C (x1 : LI) (r : Int) : Prop := CallOK cx 125 (f125_A x1) (f125_K x1) [] (f125_v r) (f125_k x1 r)

def f95_M : List Nat := [41]
def f95_v : ((List Int) × (List Int) × Int) → G := fun (y0, y1, y2) => (.tup [(.agg [.cell (.lst (.int .i64) y0 false), .cell (.lst (.int .i64) y1 false)]), (.at (.int .i64 y2))])
def f95_k0 : ((List Int) × (List Int) × Int) → List (Nat × Blk) := fun (y0, y1, y2) => []
def f95_k (x1 x2 : LI) : ((List Int) × (List Int) × Int) → List (Nat × Blk) := fun (y0, y1, y2) => []
def f95_A (x1 x2 : LI) : List G := [(GL x1), (GL x2)]
def f95_K (x1 x2 : LI) : List (Nat × Blk) := []
def f95_C (x1 x2 : LI) (r : (List Int) × (List Int) × Int) : Prop := CallOK cx 95 (f95_A x1 x2) (f95_K x1 x2) [] (f95_v r) (f95_k x1 x2 r)

def f55_M : List Nat := [40, 42]
def f55_p0_H (x6 : Int) (x7 : Bool) (x4 x5 : LI) : GS := ⟨[(6, (.r (.at (.ptr 40 0 0)))), (8, (.r (.at (.ptr 42 0 0)))), (9, (GI x6)), (22, (.r (.at (.bool (!x7)))))], [(40, (.var [.cell .nils, .cell .nils])), (42, (.var [.cell (.lst (.int .i64) x4 false), .cell (.lst (.int .i64) x5 false)]))]⟩
def f55_p0_x : Int → GExit := fun y0 => .normal
def f55_p0_s (x6 : Int) (x7 : Bool) (x4 x5 : LI) : Int → GS := fun y0 => ⟨[(6, (.r (.at (.ptr 40 0 0)))), (8, (.r (.at (.ptr 42 0 0)))), (9, (GI y0))], [(40, (.var [.cell .nils, .cell .nils])), (42, (.var [.cell (.lst (.int .i64) x4 false), .cell (.lst (.int .i64) x5 false)]))]⟩
def f55_p0_P (x6 : Int) (x7 : Bool) (x4 x5 : LI) (r : Int) : Prop := Ex cx f55_M 25 (part Tryd.f55 0) (f55_p0_H x6 x7 x4 x5) (f55_p0_x r) (f55_p0_s x6 x7 x4 x5 r)
def f55_v : ((List Int) × (List Int) × Int) → G := fun (y0, y1, y2) => (.tup [(.agg [.cell (.lst (.int .i64) y0 false), .cell (.lst (.int .i64) y1 false)]), (.at (.int .i64 y2))])
def f55_k0 : ((List Int) × (List Int) × Int) → List (Nat × Blk) := fun (y0, y1, y2) => []
def f55_k (x1 x2 : LI) (x3 : Int) : ((List Int) × (List Int) × Int) → List (Nat × Blk) := fun (y0, y1, y2) => []
def f55_A (x1 x2 : LI) (x3 : Int) : List G := [(GL x1), (GL x2), (GI x3)]
def f55_K (x1 x2 : LI) (x3 : Int) : List (Nat × Blk) := []
def f55_C (x1 x2 : LI) (x3 : Int) (r : (List Int) × (List Int) × Int) : Prop := CallOK cx 55 (f55_A x1 x2 x3) (f55_K x1 x2 x3) [] (f55_v r) (f55_k x1 x2 x3 r)

def f141_1_M : List Nat := []
def f141_1_v : Int → G := fun y0 => (GI y0)
def f141_1_k0 : Int → List (Nat × Blk) := fun y0 => []
def f141_1_k (x1 : Int) (x2 : LI) (x3 x4 x5 : Int) : Int → List (Nat × Blk) := fun y0 => [(46, (.var [.cell (.lst (.int .i64) x2 false)])), (48, (.var [.cell (.int .i64 x3)])), (51, (.var [.cell (.int .i64 x4)])), (52, (.var [.cell (.int .i64 x5)]))]
def f141_1_A (x1 : Int) (x2 : LI) (x3 x4 x5 : Int) : List G := [(GI x1), (.r (.at (.ptr 46 0 0))), (.r (.at (.ptr 51 0 0))), (.r (.at (.ptr 48 0 0))), (.r (.at (.ptr 52 0 0)))]
def f141_1_K (x1 : Int) (x2 : LI) (x3 x4 x5 : Int) : List (Nat × Blk) := [(46, (.var [.cell (.lst (.int .i64) x2 false)])), (48, (.var [.cell (.int .i64 x3)])), (51, (.var [.cell (.int .i64 x4)])), (52, (.var [.cell (.int .i64 x5)]))]
def f141_1_C (x1 : Int) (x2 : LI) (x3 x4 x5 : Int) (r : Int) : Prop := CallOK cx 141 (f141_1_A x1 x2 x3 x4 x5) (f141_1_K x1 x2 x3 x4 x5) [] (f141_1_v r) (f141_1_k x1 x2 x3 x4 x5 r)

def f123_M : List Nat := [44, 45, 46, 47, 48, 49, 50, 51, 52, 53, 54]
def f123_p1_H (x3 : Int) (x1 x2 : LI) (x6 : Int) (x5 : LI) : GS := ⟨[(1, (GI x3)), (2, (.r (.at (.ptr 44 0 0)))), (6, (.r (.at (.ptr 46 0 0)))), (26, (.r (.at (.int .i64 (((Int.toNat (w64 (x3 + 1))) : Nat) : Int))))), (27, (GI x6))], [(44, (.var [.cell (.lst (.int .i64) x1 false), .cell (.lst (.int .i64) x2 false)])), (45, (.gr (.int .i64) 3 x5 true)), (46, (.var [.cell (.sl 45 0 (Int.toNat (w64 (x3 + 1))))]))]⟩
def f123_p1_x : (List Int) → GExit := fun y0 => (.exit 0)
def f123_p1_s (x3 : Int) (x1 x2 : LI) : (List Int) → GS := fun y0 => ⟨[(1, (GI x3)), (2, (.r (.at (.ptr 44 0 0)))), (6, (.r (.at (.ptr 46 0 0))))], [(44, (.var [.cell (.lst (.int .i64) x1 false), .cell (.lst (.int .i64) x2 false)])), (45, (.gr (.int .i64) 3 y0 true)), (46, (.var [.cell (.sl 45 0 (Int.toNat (w64 (x3 + 1))))]))]⟩
def f123_p1_P (x3 : Int) (x1 x2 : LI) (x6 : Int) (x5 : LI) (r : (List Int)) : Prop := Lp cx f123_M 178 (part Tryd.f123 1) (f123_p1_H x3 x1 x2 x6 x5) (f123_p1_x r) (f123_p1_s x3 x1 x2 r)
def f123_p17_17_H (x3 : Int) (x1 : LI) (x134 x137 : Int) (x136 x167 : Int) (x2 x135 : LI) (x133 : LL) (x179 x180 : LI) (x182 : Int) (x183 : LI) : GS := ⟨[(1, (GI x3)), (2, (.r (.at (.ptr 44 0 0)))), (6, (.r (.at (.ptr 46 0 0)))), (8, (.r (.at (.sl 47 0 (Int.toNat (LN x1)))))), (9, (GI x134)), (10, (.r (.at (.ptr 48 0 0)))), (11, (GI x137)), (12, (.r (.at (.sl 49 0 (Int.toNat (w64 (x3 + 1))))))), (13, (.r (.at (.sl 50 0 (Int.toNat (w64 (x3 + 1))))))), (14, (.r (.at (.ptr 51 0 0)))), (15, (.r (.at (.sl 53 0 (List.length x183))))), (16, (.r (.at (.ptr 52 0 0)))), (17, (.r (.at (.app2 (.app2 (.app2 (.app2 (.fn 141) (.ptr 46 0 0)) (.ptr 51 0 0)) (.ptr 48 0 0)) (.ptr 52 0 0))))), (67, (.r (.at (.int .i64 (if (w64 (x3 + 1)) < x136 then (w64 (x3 + 1)) else x136))))), (68, (GI x167))], [(44, (.var [.cell (.lst (.int .i64) x1 false), .cell (.lst (.int .i64) x2 false)])), (46, (.var [.cell (.lst (.int .i64) x135 false)])), (47, (.gr (.list (.int .i64)) 22 x133 true)), (48, (.var [.cell (.int .i64 x136)])), (49, (.gr (.int .i64) 3 x179 true)), (50, (.gr (.int .i64) 3 x180 true)), (51, (.var [.cell (.int .i64 x167)])), (52, (.var [.cell (.int .i64 x182)])), (53, (.gr (.int .i64) 3 x183 true))]⟩
def f123_p17_17_x : (List Int) → GExit := fun y0 => (.exit 8)
def f123_p17_17_s (x3 : Int) (x1 : LI) (x134 x137 : Int) (x136 x167 : Int) (x2 x135 : LI) (x133 : LL) (x179 x180 : LI) (x182 : Int) : (List Int) → GS := fun y0 => ⟨[(1, (GI x3)), (2, (.r (.at (.ptr 44 0 0)))), (6, (.r (.at (.ptr 46 0 0)))), (8, (.r (.at (.sl 47 0 (Int.toNat (LN x1)))))), (9, (GI x134)), (10, (.r (.at (.ptr 48 0 0)))), (11, (GI x137)), (12, (.r (.at (.sl 49 0 (Int.toNat (w64 (x3 + 1))))))), (13, (.r (.at (.sl 50 0 (Int.toNat (w64 (x3 + 1))))))), (14, (.r (.at (.ptr 51 0 0)))), (15, (.r (.at (.sl 53 0 (List.length y0))))), (16, (.r (.at (.ptr 52 0 0)))), (17, (.r (.at (.app2 (.app2 (.app2 (.app2 (.fn 141) (.ptr 46 0 0)) (.ptr 51 0 0)) (.ptr 48 0 0)) (.ptr 52 0 0))))), (67, (.r (.at (.int .i64 (if (w64 (x3 + 1)) < x136 then (w64 (x3 + 1)) else x136))))), (68, (GI x167))], [(44, (.var [.cell (.lst (.int .i64) x1 false), .cell (.lst (.int .i64) x2 false)])), (46, (.var [.cell (.lst (.int .i64) x135 false)])), (47, (.gr (.list (.int .i64)) 22 x133 true)), (48, (.var [.cell (.int .i64 x136)])), (49, (.gr (.int .i64) 3 x179 true)), (50, (.gr (.int .i64) 3 x180 true)), (51, (.var [.cell (.int .i64 x167)])), (52, (.var [.cell (.int .i64 x182)])), (53, (.gr (.int .i64) 3 y0 true))]⟩
def f123_p17_17_P (x3 : Int) (x1 : LI) (x134 x137 : Int) (x136 x167 : Int) (x2 x135 : LI) (x133 : LL) (x179 x180 : LI) (x182 : Int) (x183 : LI) (r : (List Int)) : Prop := Lp cx f123_M 178 (part Tryd.f123 17) (f123_p17_17_H x3 x1 x134 x137 x136 x167 x2 x135 x133 x179 x180 x182 x183) (f123_p17_17_x r) (f123_p17_17_s x3 x1 x134 x137 x136 x167 x2 x135 x133 x179 x180 x182 r)
def f123_p20_17_H (x3 : Int) (x1 : LI) (x134 x137 : Int) (x187 : LI) (x182 x136 : Int) (x167 x188 : Int) (x2 x135 : LI) (x133 : LL) (x179 x180 : LI) : GS := ⟨[(1, (GI x3)), (2, (.r (.at (.ptr 44 0 0)))), (6, (.r (.at (.ptr 46 0 0)))), (8, (.r (.at (.sl 47 0 (Int.toNat (LN x1)))))), (9, (GI x134)), (10, (.r (.at (.ptr 48 0 0)))), (11, (GI x137)), (12, (.r (.at (.sl 49 0 (Int.toNat (w64 (x3 + 1))))))), (13, (.r (.at (.sl 50 0 (Int.toNat (w64 (x3 + 1))))))), (14, (.r (.at (.ptr 51 0 0)))), (15, (.r (.at (.sl 53 0 (List.length (x187 ++ ([x182] : List Int))))))), (16, (.r (.at (.ptr 52 0 0)))), (17, (.r (.at (.app2 (.app2 (.app2 (.app2 (.fn 141) (.ptr 46 0 0)) (.ptr 51 0 0)) (.ptr 48 0 0)) (.ptr 52 0 0))))), (67, (.r (.at (.int .i64 (if (w64 (x3 + 1)) < x136 then (w64 (x3 + 1)) else x136))))), (68, (GI x167)), (113, (.r (.at (.bool (decide (x188 < (w64 (x182 - x137))))))))], [(44, (.var [.cell (.lst (.int .i64) x1 false), .cell (.lst (.int .i64) x2 false)])), (46, (.var [.cell (.lst (.int .i64) x135 false)])), (47, (.gr (.list (.int .i64)) 22 x133 true)), (48, (.var [.cell (.int .i64 x136)])), (49, (.gr (.int .i64) 3 x179 true)), (50, (.gr (.int .i64) 3 x180 true)), (51, (.var [.cell (.int .i64 x167)])), (52, (.var [.cell (.int .i64 x182)])), (53, (.gr (.int .i64) 3 ((x187 ++ ([x182] : List Int)) : List Int) true))]⟩
def f123_p20_17_x : (List Int) → GExit := fun y0 => .normal
def f123_p20_17_s (x3 : Int) (x1 : LI) (x134 x137 : Int) (x187 : LI) (x182 x136 : Int) (x167 x188 : Int) (x2 x135 : LI) (x133 : LL) (x179 x180 : LI) : (List Int) → GS := fun y0 => ⟨[(1, (GI x3)), (2, (.r (.at (.ptr 44 0 0)))), (6, (.r (.at (.ptr 46 0 0)))), (8, (.r (.at (.sl 47 0 (Int.toNat (LN x1)))))), (9, (GI x134)), (10, (.r (.at (.ptr 48 0 0)))), (11, (GI x137)), (12, (.r (.at (.sl 49 0 (Int.toNat (w64 (x3 + 1))))))), (13, (.r (.at (.sl 50 0 (Int.toNat (w64 (x3 + 1))))))), (14, (.r (.at (.ptr 51 0 0)))), (15, (.r (.at (.sl 53 0 (List.length y0))))), (16, (.r (.at (.ptr 52 0 0)))), (17, (.r (.at (.app2 (.app2 (.app2 (.app2 (.fn 141) (.ptr 46 0 0)) (.ptr 51 0 0)) (.ptr 48 0 0)) (.ptr 52 0 0))))), (67, (.r (.at (.int .i64 (if (w64 (x3 + 1)) < x136 then (w64 (x3 + 1)) else x136))))), (68, (GI x167))], [(44, (.var [.cell (.lst (.int .i64) x1 false), .cell (.lst (.int .i64) x2 false)])), (46, (.var [.cell (.lst (.int .i64) x135 false)])), (47, (.gr (.list (.int .i64)) 22 x133 true)), (48, (.var [.cell (.int .i64 x136)])), (49, (.gr (.int .i64) 3 x179 true)), (50, (.gr (.int .i64) 3 x180 true)), (51, (.var [.cell (.int .i64 x167)])), (52, (.var [.cell (.int .i64 x182)])), (53, (.gr (.int .i64) 3 y0 true))]⟩
def f123_p20_17_P (x3 : Int) (x1 : LI) (x134 x137 : Int) (x187 : LI) (x182 x136 : Int) (x167 x188 : Int) (x2 x135 : LI) (x133 : LL) (x179 x180 : LI) (r : (List Int)) : Prop := Ex cx f123_M 178 (part Tryd.f123 20) (f123_p20_17_H x3 x1 x134 x137 x187 x182 x136 x167 x188 x2 x135 x133 x179 x180) (f123_p20_17_x r) (f123_p20_17_s x3 x1 x134 x137 x187 x182 x136 x167 x188 x2 x135 x133 x179 x180 r)
def f123_p13_5_H (x3 : Int) (x1 : LI) (x134 x137 : Int) (x136 x167 : Int) (x2 x135 : LI) (x133 : LL) (x179 x180 : LI) (x182 : Int) (x181 : LI) : GS := ⟨[(1, (GI x3)), (2, (.r (.at (.ptr 44 0 0)))), (6, (.r (.at (.ptr 46 0 0)))), (8, (.r (.at (.sl 47 0 (Int.toNat (LN x1)))))), (9, (GI x134)), (10, (.r (.at (.ptr 48 0 0)))), (11, (GI x137)), (12, (.r (.at (.sl 49 0 (Int.toNat (w64 (x3 + 1))))))), (13, (.r (.at (.sl 50 0 (Int.toNat (w64 (x3 + 1))))))), (14, (.r (.at (.ptr 51 0 0)))), (15, (.r (.at (.sl 53 0 (List.length x181))))), (16, (.r (.at (.ptr 52 0 0)))), (67, (.r (.at (.int .i64 (if (w64 (x3 + 1)) < x136 then (w64 (x3 + 1)) else x136))))), (68, (GI x167))], [(44, (.var [.cell (.lst (.int .i64) x1 false), .cell (.lst (.int .i64) x2 false)])), (46, (.var [.cell (.lst (.int .i64) x135 false)])), (47, (.gr (.list (.int .i64)) 22 x133 true)), (48, (.var [.cell (.int .i64 x136)])), (49, (.gr (.int .i64) 3 x179 true)), (50, (.gr (.int .i64) 3 x180 true)), (51, (.var [.cell (.int .i64 x167)])), (52, (.var [.cell (.int .i64 x182)])), (53, (.gr (.int .i64) 3 x181 true))]⟩
def f123_p13_5_x : ((List Int) × (List Int)) → GExit := fun (y0, y1) => (.exit 6)
def f123_p13_5_s (x3 : Int) (x1 : LI) (x134 x137 : Int) (x136 x167 : Int) (x2 x135 : LI) (x133 : LL) : ((List Int) × (List Int)) → GS := fun (y0, y1) => ⟨[(1, (GI x3)), (2, (.r (.at (.ptr 44 0 0)))), (6, (.r (.at (.ptr 46 0 0)))), (8, (.r (.at (.sl 47 0 (Int.toNat (LN x1)))))), (9, (GI x134)), (10, (.r (.at (.ptr 48 0 0)))), (11, (GI x137)), (12, (.r (.at (.sl 49 0 (Int.toNat (w64 (x3 + 1))))))), (13, (.r (.at (.sl 50 0 (Int.toNat (w64 (x3 + 1))))))), (67, (.r (.at (.int .i64 (if (w64 (x3 + 1)) < x136 then (w64 (x3 + 1)) else x136))))), (68, (GI x167))], [(44, (.var [.cell (.lst (.int .i64) x1 false), .cell (.lst (.int .i64) x2 false)])), (46, (.var [.cell (.lst (.int .i64) x135 false)])), (47, (.gr (.list (.int .i64)) 22 x133 true)), (48, (.var [.cell (.int .i64 x136)])), (49, (.gr (.int .i64) 3 y0 true)), (50, (.gr (.int .i64) 3 y1 true))]⟩
def f123_p13_5_P (x3 : Int) (x1 : LI) (x134 x137 : Int) (x136 x167 : Int) (x2 x135 : LI) (x133 : LL) (x179 x180 : LI) (x182 : Int) (x181 : LI) (r : (List Int) × (List Int)) : Prop := Lp cx f123_M 178 (part Tryd.f123 13) (f123_p13_5_H x3 x1 x134 x137 x136 x167 x2 x135 x133 x179 x180 x182 x181) (f123_p13_5_x r) (f123_p13_5_s x3 x1 x134 x137 x136 x167 x2 x135 x133 r)
def f123_p9_2_H (x3 : Int) (x1 : LI) (x134 x137 x136 : Int) (x2 x135 : LI) (x133 : LL) (x167 : Int) (x165 x166 : LI) : GS := ⟨[(1, (GI x3)), (2, (.r (.at (.ptr 44 0 0)))), (6, (.r (.at (.ptr 46 0 0)))), (8, (.r (.at (.sl 47 0 (Int.toNat (LN x1)))))), (9, (GI x134)), (10, (.r (.at (.ptr 48 0 0)))), (11, (GI x137)), (12, (.r (.at (.sl 49 0 (Int.toNat (w64 (x3 + 1))))))), (13, (.r (.at (.sl 50 0 (Int.toNat (w64 (x3 + 1))))))), (67, (.r (.at (.int .i64 (if (w64 (x3 + 1)) < x136 then (w64 (x3 + 1)) else x136))))), (68, (GI x167))], [(44, (.var [.cell (.lst (.int .i64) x1 false), .cell (.lst (.int .i64) x2 false)])), (46, (.var [.cell (.lst (.int .i64) x135 false)])), (47, (.gr (.list (.int .i64)) 22 x133 true)), (48, (.var [.cell (.int .i64 x136)])), (49, (.gr (.int .i64) 3 x165 true)), (50, (.gr (.int .i64) 3 x166 true))]⟩
def f123_p9_2_x : ((List Int) × (List Int)) → GExit := fun (y0, y1) => (.exit 4)
def f123_p9_2_s (x3 : Int) (x1 : LI) (x134 x137 x136 : Int) (x2 x135 : LI) (x133 : LL) : ((List Int) × (List Int)) → GS := fun (y0, y1) => ⟨[(1, (GI x3)), (2, (.r (.at (.ptr 44 0 0)))), (6, (.r (.at (.ptr 46 0 0)))), (8, (.r (.at (.sl 47 0 (Int.toNat (LN x1)))))), (9, (GI x134)), (12, (.r (.at (.sl 49 0 (Int.toNat (w64 (x3 + 1))))))), (13, (.r (.at (.sl 50 0 (Int.toNat (w64 (x3 + 1)))))))], [(44, (.var [.cell (.lst (.int .i64) x1 false), .cell (.lst (.int .i64) x2 false)])), (46, (.var [.cell (.lst (.int .i64) x135 false)])), (47, (.gr (.list (.int .i64)) 22 x133 true)), (49, (.gr (.int .i64) 3 y0 true)), (50, (.gr (.int .i64) 3 y1 true))]⟩
def f123_p9_2_P (x3 : Int) (x1 : LI) (x134 x137 x136 : Int) (x2 x135 : LI) (x133 : LL) (x167 : Int) (x165 x166 : LI) (r : (List Int) × (List Int)) : Prop := Lp cx f123_M 178 (part Tryd.f123 9) (f123_p9_2_H x3 x1 x134 x137 x136 x2 x135 x133 x167 x165 x166) (f123_p9_2_x r) (f123_p9_2_s x3 x1 x134 x137 x136 x2 x135 x133 r)
def f123_p5_H (x3 : Int) (x1 x2 : LI) (x134 : Int) (x135 : LI) (x133 : LL) : GS := ⟨[(1, (GI x3)), (2, (.r (.at (.ptr 44 0 0)))), (6, (.r (.at (.ptr 46 0 0)))), (8, (.r (.at (.sl 47 0 (Int.toNat (LN x1)))))), (9, (GI x134))], [(44, (.var [.cell (.lst (.int .i64) x1 false), .cell (.lst (.int .i64) x2 false)])), (46, (.var [.cell (.lst (.int .i64) x135 false)])), (47, (.gr (.list (.int .i64)) 22 x133 true))]⟩
def f123_p5_x : ((List Int) × (List (List Int))) → GExit := fun (y0, y1) => (.exit 2)
def f123_p5_s (x3 : Int) (x1 x2 : LI) : ((List Int) × (List (List Int))) → GS := fun (y0, y1) => ⟨[(1, (GI x3)), (2, (.r (.at (.ptr 44 0 0)))), (6, (.r (.at (.ptr 46 0 0)))), (8, (.r (.at (.sl 47 0 (Int.toNat (LN x1))))))], [(44, (.var [.cell (.lst (.int .i64) x1 false), .cell (.lst (.int .i64) x2 false)])), (46, (.var [.cell (.lst (.int .i64) y0 false)])), (47, (.gr (.list (.int .i64)) 22 y1 true))]⟩
def f123_p5_P (x3 : Int) (x1 x2 : LI) (x134 : Int) (x135 : LI) (x133 : LL) (r : (List Int) × (List (List Int))) : Prop := Lp cx f123_M 178 (part Tryd.f123 5) (f123_p5_H x3 x1 x2 x134 x135 x133) (f123_p5_x r) (f123_p5_s x3 x1 x2 r)
def f123_p23_H (x1 x2 : LI) (x197 : LL) (x205 x206 : Int) (x204 : LI) : GS := ⟨[(1, (GI x205)), (2, (.r (.at (.ptr 44 0 0)))), (19, (.r (.at (.sl 54 0 (List.length x204))))), (150, (.r (.at (.sl 47 0 (Int.toNat (LN x1)))))), (151, (.r (.at (.int .i64 (((Int.toNat (LN x1)) : Nat) : Int))))), (152, (GI x206))], [(44, (.var [.cell (.lst (.int .i64) x1 false), .cell (.lst (.int .i64) x2 false)])), (47, (.gr (.list (.int .i64)) 22 x197 true)), (54, (.gr (.int .i64) 3 x204 true))]⟩
def f123_p23_x : (List Int) → GExit := fun y0 => (.exit 10)
def f123_p23_s (x1 x2 : LI) (x197 : LL) : (List Int) → GS := fun y0 => ⟨[(19, (.r (.at (.sl 54 0 (List.length y0)))))], [(54, (.gr (.int .i64) 3 y0 true))]⟩
def f123_p23_P (x1 x2 : LI) (x197 : LL) (x205 x206 : Int) (x204 : LI) (r : (List Int)) : Prop := Lp cx f123_M 178 (part Tryd.f123 23) (f123_p23_H x1 x2 x197 x205 x206 x204) (f123_p23_x r) (f123_p23_s x1 x2 x197 r)
def f123_v : ((List Int) × Int) → G := fun (y0, y1) => (.tup [(.at (.lst (.int .i64) y0 false)), (.at (.int .i64 y1))])
def f123_k0 : ((List Int) × Int) → List (Nat × Blk) := fun (y0, y1) => []
def f123_k (x1 x2 : LI) (x3 : Int) : ((List Int) × Int) → List (Nat × Blk) := fun (y0, y1) => []
def f123_A (x1 x2 : LI) (x3 : Int) : List G := [(.r (.agg [.cell (.lst (.int .i64) x1 false), .cell (.lst (.int .i64) x2 false)])), (GI x3)]
def f123_K (x1 x2 : LI) (x3 : Int) : List (Nat × Blk) := []
def f123_C (x1 x2 : LI) (x3 : Int) (r : (List Int) × Int) : Prop := CallOK cx 123 (f123_A x1 x2 x3) (f123_K x1 x2 x3) [] (f123_v r) (f123_k x1 x2 x3 r)

def f94_M : List Nat := [43]
def f94_v : ((List Int) × Int) → G := fun (y0, y1) => (.tup [(.at (.lst (.int .i64) y0 false)), (.at (.int .i64 y1))])
def f94_k0 : ((List Int) × Int) → List (Nat × Blk) := fun (y0, y1) => []
def f94_k (x1 x2 : LI) (x3 : Int) : ((List Int) × Int) → List (Nat × Blk) := fun (y0, y1) => []
def f94_A (x1 x2 : LI) (x3 : Int) : List G := [(GL x1), (GL x2), (GI x3)]
def f94_K (x1 x2 : LI) (x3 : Int) : List (Nat × Blk) := []
def f94_C (x1 x2 : LI) (x3 : Int) (r : (List Int) × Int) : Prop := CallOK cx 94 (f94_A x1 x2 x3) (f94_K x1 x2 x3) [] (f94_v r) (f94_k x1 x2 x3 r)

def f170_M : List Nat := []
def f170_v : Bool → G := fun y0 => (GB y0)
def f170_k0 : Bool → List (Nat × Blk) := fun y0 => []
def f170_k (x1 x2 x3 : Int) : Bool → List (Nat × Blk) := fun y0 => []
def f170_A (x1 x2 x3 : Int) : List G := [(GI x1), (GI x2), (GI x3)]
def f170_K (x1 x2 x3 : Int) : List (Nat × Blk) := []
def f170_C (x1 x2 x3 : Int) (r : Bool) : Prop := CallOK cx 170 (f170_A x1 x2 x3) (f170_K x1 x2 x3) [] (f170_v r) (f170_k x1 x2 x3 r)

def f169_M : List Nat := []
def f169_v : Bool → G := fun y0 => (GB y0)
def f169_k0 : Bool → List (Nat × Blk) := fun y0 => []
def f169_k (x1 x2 : Int) : Bool → List (Nat × Blk) := fun y0 => [(55, (.var [.cell (.int .i64 x2)]))]
def f169_A (x1 x2 : Int) : List G := [(GI x1), (.r (.at (.ptr 55 0 0)))]
def f169_K (x1 x2 : Int) : List (Nat × Blk) := [(55, (.var [.cell (.int .i64 x2)]))]
def f169_C (x1 x2 : Int) (r : Bool) : Prop := CallOK cx 169 (f169_A x1 x2) (f169_K x1 x2) [] (f169_v r) (f169_k x1 x2 r)

def f92_1_M : List Nat := []
def f92_1_p1_H (x1 : LI) (x2 x3 : Int) : GS := ⟨[(0, (GL x1)), (1, (.r (.at (.app2 (.fn 169) (.ptr 55 0 0))))), (7, (.r (.at (.int .i64 (LN x1))))), (8, (GI x3))], [(55, (.var [.cell (.int .i64 x2)]))]⟩
def f92_1_p1_x : f92_1_p1_R → GExit := fun
 | .c0 y0 => .ret
 | .c1 => (.exit 0)
def f92_1_p1_s (x1 : LI) (x2 : Int) : f92_1_p1_R → GS := fun
 | .c0 y0 => ⟨[(4, (GI y0))], [(55, (.var [.cell (.int .i64 x2)]))]⟩
 | .c1 => ⟨[], [(55, (.var [.cell (.int .i64 x2)]))]⟩
def f92_1_p1_P (x1 : LI) (x2 x3 : Int) (r : f92_1_p1_R) : Prop := Lp cx f92_1_M 19 (part Tryd.f92 1) (f92_1_p1_H x1 x2 x3) (f92_1_p1_x r) (f92_1_p1_s x1 x2 r)
def f92_1_v : Int → G := fun y0 => (GI y0)
def f92_1_k0 : Int → List (Nat × Blk) := fun y0 => []
def f92_1_k (x1 : LI) (x2 : Int) : Int → List (Nat × Blk) := fun y0 => [(55, (.var [.cell (.int .i64 x2)]))]
def f92_1_A (x1 : LI) (x2 : Int) : List G := [(GL x1), (.r (.at (.app2 (.fn 169) (.ptr 55 0 0))))]
def f92_1_K (x1 : LI) (x2 : Int) : List (Nat × Blk) := [(55, (.var [.cell (.int .i64 x2)]))]
def f92_1_C (x1 : LI) (x2 : Int) (r : Int) : Prop := CallOK cx 92 (f92_1_A x1 x2) (f92_1_K x1 x2) [] (f92_1_v r) (f92_1_k x1 x2 r)

def f168_1_M : List Nat := []
def f168_1_v : Bool → G := fun y0 => (GB y0)
def f168_1_k0 : Bool → List (Nat × Blk) := fun y0 => []
def f168_1_k (x1 : LI) (x2 : Int) : Bool → List (Nat × Blk) := fun y0 => [(55, (.var [.cell (.int .i64 x2)]))]
def f168_1_A (x1 : LI) (x2 : Int) : List G := [(GL x1), (.r (.at (.app2 (.fn 169) (.ptr 55 0 0))))]
def f168_1_K (x1 : LI) (x2 : Int) : List (Nat × Blk) := [(55, (.var [.cell (.int .i64 x2)]))]
def f168_1_C (x1 : LI) (x2 : Int) (r : Bool) : Prop := CallOK cx 168 (f168_1_A x1 x2) (f168_1_K x1 x2) [] (f168_1_v r) (f168_1_k x1 x2 r)

def f163_M : List Nat := [55]
def f163_p5_H (x1 : LI) (x5 x6 : Int) : GS := ⟨[(0, (GL x1)), (3, (.r (.at (.ptr 55 0 0)))), (19, (GL x1)), (20, (.r (.at (.int .i64 (LN x1))))), (21, (GI x5))], [(55, (.var [.cell (.int .i64 x6)]))]⟩
def f163_p5_x : Int → GExit := fun y0 => (.exit 1)
def f163_p5_s (x1 : LI) : Int → GS := fun y0 => ⟨[(0, (GL x1)), (3, (.r (.at (.ptr 55 0 0))))], [(55, (.var [.cell (.int .i64 y0)]))]⟩
def f163_p5_P (x1 : LI) (x5 x6 : Int) (r : Int) : Prop := Lp cx f163_M 40 (part Tryd.f163 5) (f163_p5_H x1 x5 x6) (f163_p5_x r) (f163_p5_s x1 r)
def f163_v : Int → G := fun y0 => (GI y0)
def f163_k0 : Int → List (Nat × Blk) := fun y0 => []
def f163_k (x1 : LI) : Int → List (Nat × Blk) := fun y0 => []
def f163_A (x1 : LI) : List G := [(GL x1)]
def f163_K (x1 : LI) : List (Nat × Blk) := []
def f163_C (x1 : LI) (r : Int) : Prop := CallOK cx 163 (f163_A x1) (f163_K x1) [] (f163_v r) (f163_k x1 r)

def f165_M : List Nat := [56]
def f165_p1_H (x5 : Int) (x4 : LI) : GS := ⟨[(0, (.r (.at (.int .u8 x5)))), (3, (.r (.at (.sl 56 0 (List.length x4)))))], [(56, (.gr (.int .i64) 3 x4 true))]⟩
def f165_p1_x : (List Int) → GExit := fun y0 => (.exit 0)
def f165_p1_s : (List Int) → GS := fun y0 => ⟨[(3, (.r (.at (.sl 56 0 (List.length y0)))))], [(56, (.gr (.int .i64) 3 y0 true))]⟩
def f165_p1_P (x5 : Int) (x4 : LI) (r : (List Int)) : Prop := Lp cx f165_M 16 (part Tryd.f165 1) (f165_p1_H x5 x4) (f165_p1_x r) (f165_p1_s r)
def f165_v : (List Int) → G := fun y0 => (GL y0)
def f165_k0 : (List Int) → List (Nat × Blk) := fun y0 => []
def f165_k (x1 : Int) : (List Int) → List (Nat × Blk) := fun y0 => []
def f165_A (x1 : Int) : List G := [(.r (.at (.int .u8 x1)))]
def f165_K (x1 : Int) : List (Nat × Blk) := []
def f165_C (x1 : Int) (r : (List Int)) : Prop := CallOK cx 165 (f165_A x1) (f165_K x1) [] (f165_v r) (f165_k x1 r)

def f164_M : List Nat := []
def f164_p1_H (x1 x3 : LI) (x4 x5 : Int) : GS := ⟨[(0, (GL x1)), (6, (GI x4)), (18, (GL x3)), (19, (.r (.at (.int .i64 (LN x3))))), (20, (GI x5))], []⟩
def f164_p1_x : Int → GExit := fun y0 => (.exit 0)
def f164_p1_s (x1 x3 : LI) : Int → GS := fun y0 => ⟨[(6, (GI y0))], []⟩
def f164_p1_P (x1 x3 : LI) (x4 x5 : Int) (r : Int) : Prop := Lp cx f164_M 32 (part Tryd.f164 1) (f164_p1_H x1 x3 x4 x5) (f164_p1_x r) (f164_p1_s x1 x3 r)
def f164_v : Int → G := fun y0 => (GI y0)
def f164_k0 : Int → List (Nat × Blk) := fun y0 => []
def f164_k (x1 : LI) (x2 : Int) : Int → List (Nat × Blk) := fun y0 => []
def f164_A (x1 : LI) (x2 : Int) : List G := [(GL x1), (.r (.at (.int .u8 x2)))]
def f164_K (x1 : LI) (x2 : Int) : List (Nat × Blk) := []
def f164_C (x1 : LI) (x2 : Int) (r : Int) : Prop := CallOK cx 164 (f164_A x1 x2) (f164_K x1 x2) [] (f164_v r) (f164_k x1 x2 r)

def f107_1_M : List Nat := []
def f107_1_p1_H (x1 : LI) (x2 : Option (List Int)) (x3 : Int) : GS := ⟨[(0, (GL x1)), (1, (.r (.at (.olst (.int .i64) x2)))), (9, (GL x1)), (10, (.r (.at (.int .i64 (LN x1))))), (11, (GI x3))], []⟩
def f107_1_p1_x : f107_1_p1_R → GExit := fun
 | .c0 y0 => .ret
 | .c1 => (.exit 0)
def f107_1_p1_s (x1 : LI) (x2 : Option (List Int)) : f107_1_p1_R → GS := fun
 | .c0 y0 => ⟨[(4, (GI y0))], []⟩
 | .c1 => ⟨[(0, (GL x1)), (1, (.r (.at (.olst (.int .i64) x2))))], []⟩
def f107_1_p1_P (x1 : LI) (x2 : Option (List Int)) (x3 : Int) (r : f107_1_p1_R) : Prop := Lp cx f107_1_M 36 (part Tryd.f107 1) (f107_1_p1_H x1 x2 x3) (f107_1_p1_x r) (f107_1_p1_s x1 x2 r)
def f107_1_v : Int → G := fun y0 => (GI y0)
def f107_1_k0 : Int → List (Nat × Blk) := fun y0 => []
def f107_1_k (x1 : LI) (x2 : Option (List Int)) : Int → List (Nat × Blk) := fun y0 => []
def f107_1_A (x1 : LI) (x2 : Option (List Int)) : List G := [(GL x1), (.r (.at (.olst (.int .i64) x2)))]
def f107_1_K (x1 : LI) (x2 : Option (List Int)) : List (Nat × Blk) := []
def f107_1_C (x1 : LI) (x2 : Option (List Int)) (r : Int) : Prop := CallOK cx 107 (f107_1_A x1 x2) (f107_1_K x1 x2) [] (f107_1_v r) (f107_1_k x1 x2 r)

def f156_M : List Nat := []
def f156_p6_H (x1 : LI) (x3 : Option (List Int)) (x4 : Int) (x6 : LI) (x7 : Int) : GS := ⟨[(0, (GL x1)), (5, (.r (.at (.olst (.int .i64) x3)))), (6, (.r (.at (.int .u8 x4)))), (7, (GL x6)), (47, (.r (.at (.bool (decide (x7 < 0))))))], []⟩
def f156_p6_x : (Option (List Int)) → GExit := fun y0 => .normal
def f156_p6_s (x1 : LI) (x3 : Option (List Int)) (x4 : Int) (x6 : LI) (x7 : Int) : (Option (List Int)) → GS := fun y0 => ⟨[(0, (GL x1)), (5, (.r (.at (.olst (.int .i64) y0)))), (6, (.r (.at (.int .u8 x4))))], []⟩
def f156_p6_P (x1 : LI) (x3 : Option (List Int)) (x4 : Int) (x6 : LI) (x7 : Int) (r : (Option (List Int))) : Prop := Ex cx f156_M 52 (part Tryd.f156 6) (f156_p6_H x1 x3 x4 x6 x7) (f156_p6_x r) (f156_p6_s x1 x3 x4 x6 x7 r)
def f156_p2_H (x1 : LI) (x3 : Option (List Int)) (x4 : Int) : GS := ⟨[(0, (GL x1)), (5, (.r (.at (.olst (.int .i64) x3)))), (6, (.r (.at (.int .u8 x4))))], []⟩
def f156_p2_x : (Option (List Int)) → GExit := fun y0 => (.exit 0)
def f156_p2_s (x1 : LI) : (Option (List Int)) → GS := fun y0 => ⟨[(5, (.r (.at (.olst (.int .i64) y0))))], []⟩
def f156_p2_P (x1 : LI) (x3 : Option (List Int)) (x4 : Int) (r : (Option (List Int))) : Prop := Lp cx f156_M 52 (part Tryd.f156 2) (f156_p2_H x1 x3 x4) (f156_p2_x r) (f156_p2_s x1 r)
def f156_v : ((List Int) × Int) → G := fun (y0, y1) => (.tup [(.at (.lst (.int .i64) y0 false)), (.at (.int .i64 y1))])
def f156_k0 : ((List Int) × Int) → List (Nat × Blk) := fun (y0, y1) => []
def f156_k (x1 : LI) : ((List Int) × Int) → List (Nat × Blk) := fun (y0, y1) => []
def f156_A (x1 : LI) : List G := [(GL x1)]
def f156_K (x1 : LI) : List (Nat × Blk) := []
def f156_C (x1 : LI) (r : (List Int) × Int) : Prop := CallOK cx 156 (f156_A x1) (f156_K x1) [] (f156_v r) (f156_k x1 r)

def f146_M : List Nat := []
def f146_v : Bool → G := fun y0 => (GB y0)
def f146_k0 : Bool → List (Nat × Blk) := fun y0 => []
def f146_k : Bool → List (Nat × Blk) := fun y0 => []
def f146_A : List G := []
def f146_K : List (Nat × Blk) := []
def f146_C (r : Bool) : Prop := CallOK cx 146 (f146_A) (f146_K) [] (f146_v r) (f146_k r)

def f134_M : List Nat := []
def f134_v : Bool → G := fun y0 => (GB y0)
def f134_k0 : Bool → List (Nat × Blk) := fun y0 => []
def f134_k : Bool → List (Nat × Blk) := fun y0 => []
def f134_A : List G := []
def f134_K : List (Nat × Blk) := []
def f134_C (r : Bool) : Prop := CallOK cx 134 (f134_A) (f134_K) [] (f134_v r) (f134_k r)

def f101_M : List Nat := []
def f101_v : Bool → G := fun y0 => (GB y0)
def f101_k0 : Bool → List (Nat × Blk) := fun y0 => []
def f101_k : Bool → List (Nat × Blk) := fun y0 => []
def f101_A : List G := []
def f101_K : List (Nat × Blk) := []
def f101_C (r : Bool) : Prop := CallOK cx 101 (f101_A) (f101_K) [] (f101_v r) (f101_k r)

def f64_M : List Nat := []
def f64_v : Bool → G := fun y0 => (GB y0)
def f64_k0 : Bool → List (Nat × Blk) := fun y0 => []
def f64_k : Bool → List (Nat × Blk) := fun y0 => []
def f64_A : List G := []
def f64_K : List (Nat × Blk) := []
def f64_C (r : Bool) : Prop := CallOK cx 64 (f64_A) (f64_K) [] (f64_v r) (f64_k r)

def f27_M : List Nat := []
def f27_v : Bool → G := fun y0 => (GB y0)
def f27_k0 : Bool → List (Nat × Blk) := fun y0 => []
def f27_k : Bool → List (Nat × Blk) := fun y0 => []
def f27_A : List G := []
def f27_K : List (Nat × Blk) := []
def f27_C (r : Bool) : Prop := CallOK cx 27 (f27_A) (f27_K) [] (f27_v r) (f27_k r)

def f33_M : List Nat := []
def f33_v : Bool → G := fun y0 => (GB y0)
def f33_k0 : Bool → List (Nat × Blk) := fun y0 => []
def f33_k : Bool → List (Nat × Blk) := fun y0 => []
def f33_A : List G := []
def f33_K : List (Nat × Blk) := []
def f33_C (r : Bool) : Prop := CallOK cx 33 (f33_A) (f33_K) [] (f33_v r) (f33_k r)

def f109_M : List Nat := []
def f109_v : Int → G := fun y0 => (GI y0)
def f109_k0 : Int → List (Nat × Blk) := fun y0 => []
def f109_k (x1 : Int) (x2 : Bool) (x3 x4 : LI) : Int → List (Nat × Blk) := fun y0 => [(36, (.var [.cell (.int .i64 x1), .cell (.bool x2), .arr (.int .i64) 16 x3, .arr (.int .i64) 9 x4]))]
def f109_A (x1 : Int) (x2 : Bool) (x3 x4 : LI) : List G := [(.r (.at (.ptr 36 0 0)))]
def f109_K (x1 : Int) (x2 : Bool) (x3 x4 : LI) : List (Nat × Blk) := [(36, (.var [.cell (.int .i64 x1), .cell (.bool x2), .arr (.int .i64) 16 x3, .arr (.int .i64) 9 x4]))]
def f109_C (x1 : Int) (x2 : Bool) (x3 x4 : LI) (r : Int) : Prop := CallOK cx 109 (f109_A x1 x2 x3 x4) (f109_K x1 x2 x3 x4) [] (f109_v r) (f109_k x1 x2 x3 x4 r)

def f110_M : List Nat := []
def f110_v : Int → G := fun y0 => (GI y0)
def f110_k0 : Int → List (Nat × Blk) := fun y0 => []
def f110_k (x1 x2 x3 : Int) (x4 : Bool) (x5 x6 : LI) : Int → List (Nat × Blk) := fun y0 => [(36, (.var [.cell (.int .i64 x3), .cell (.bool x4), .arr (.int .i64) 16 x5, .arr (.int .i64) 9 x6]))]
def f110_A (x1 x2 x3 : Int) (x4 : Bool) (x5 x6 : LI) : List G := [(.r (.at (.ptr 36 0 0))), (GI x1), (GI x2)]
def f110_K (x1 x2 x3 : Int) (x4 : Bool) (x5 x6 : LI) : List (Nat × Blk) := [(36, (.var [.cell (.int .i64 x3), .cell (.bool x4), .arr (.int .i64) 16 x5, .arr (.int .i64) 9 x6]))]
def f110_C (x1 x2 x3 : Int) (x4 : Bool) (x5 x6 : LI) (r : Int) : Prop := CallOK cx 110 (f110_A x1 x2 x3 x4 x5 x6) (f110_K x1 x2 x3 x4 x5 x6) [] (f110_v r) (f110_k x1 x2 x3 x4 x5 x6 r)

def f73_M : List Nat := [36, 62, 63]
def f73_p8_1_H (x4 : Int) (x16 : LI) (x17 x13 : Int) (x18 x7 : Int) (x8 : Bool) (x9 x10 : LI) : GS := ⟨[(1, (GI x4)), (6, (.r (.at (.ptr 36 0 0)))), (8, (.r (.at (.sl 63 0 (List.length x16))))), (9, (GI x17)), (36, (GI x13)), (37, (GI x17)), (44, (.r (.at (.bool (x18 == 0)))))], [(36, (.var [.cell (.int .i64 x7), .cell (.bool x8), .arr (.int .i64) 16 x9, .arr (.int .i64) 9 x10])), (63, (.gr (.int .i64) 3 x16 true))]⟩
def f73_p8_1_x : (List Int) → GExit := fun y0 => .normal
def f73_p8_1_s (x4 : Int) (x16 : LI) (x17 x13 : Int) (x18 x7 : Int) (x8 : Bool) (x9 x10 : LI) : (List Int) → GS := fun y0 => ⟨[(1, (GI x4)), (6, (.r (.at (.ptr 36 0 0)))), (8, (.r (.at (.sl 63 0 (List.length y0))))), (36, (GI x13)), (37, (GI x17))], [(36, (.var [.cell (.int .i64 x7), .cell (.bool x8), .arr (.int .i64) 16 x9, .arr (.int .i64) 9 x10])), (63, (.gr (.int .i64) 3 y0 true))]⟩
def f73_p8_1_P (x4 : Int) (x16 : LI) (x17 x13 : Int) (x18 x7 : Int) (x8 : Bool) (x9 x10 : LI) (r : (List Int)) : Prop := Ex cx f73_M 51 (part Tryd.f73 8) (f73_p8_1_H x4 x16 x17 x13 x18 x7 x8 x9 x10) (f73_p8_1_x r) (f73_p8_1_s x4 x16 x17 x13 x18 x7 x8 x9 x10 r)
def f73_p5_H (x4 x13 x7 : Int) (x8 : Bool) (x9 x10 : LI) (x17 : Int) (x16 : LI) : GS := ⟨[(1, (GI x4)), (6, (.r (.at (.ptr 36 0 0)))), (8, (.r (.at (.sl 63 0 (List.length x16))))), (36, (GI x13)), (37, (GI x17))], [(36, (.var [.cell (.int .i64 x7), .cell (.bool x8), .arr (.int .i64) 16 x9, .arr (.int .i64) 9 x10])), (63, (.gr (.int .i64) 3 x16 true))]⟩
def f73_p5_x : (List Int) → GExit := fun y0 => (.exit 1)
def f73_p5_s (x4 x13 x7 : Int) (x8 : Bool) (x9 x10 : LI) : (List Int) → GS := fun y0 => ⟨[(8, (.r (.at (.sl 63 0 (List.length y0)))))], [(63, (.gr (.int .i64) 3 y0 true))]⟩
def f73_p5_P (x4 x13 x7 : Int) (x8 : Bool) (x9 x10 : LI) (x17 : Int) (x16 : LI) (r : (List Int)) : Prop := Lp cx f73_M 51 (part Tryd.f73 5) (f73_p5_H x4 x13 x7 x8 x9 x10 x17 x16) (f73_p5_x r) (f73_p5_s x4 x13 x7 x8 x9 x10 r)
def f73_v : ((List Int) × Int) → G := fun (y0, y1) => (.tup [(.at (.lst (.int .i64) y0 false)), (.at (.int .i64 y1))])
def f73_k0 : ((List Int) × Int) → List (Nat × Blk) := fun (y0, y1) => []
def f73_k (x1 : Int) (x2 : Bool) (x3 : LI) (x4 : Int) : ((List Int) × Int) → List (Nat × Blk) := fun (y0, y1) => []
def f73_A (x1 : Int) (x2 : Bool) (x3 : LI) (x4 : Int) : List G := [(.r (.agg [.cell (.int .i64 x1), .cell (.bool x2), .cell (.lst (.int .i64) x3 false)])), (GI x4)]
def f73_K (x1 : Int) (x2 : Bool) (x3 : LI) (x4 : Int) : List (Nat × Blk) := []
def f73_C (x1 : Int) (x2 : Bool) (x3 : LI) (x4 : Int) (r : (List Int) × Int) : Prop := CallOK cx 73 (f73_A x1 x2 x3 x4) (f73_K x1 x2 x3 x4) [] (f73_v r) (f73_k x1 x2 x3 x4 r)

def f111_M : List Nat := []
def f111_v : (Int × Bool × (List Int) × (List Int)) → G := fun (y0, y1, y2, y3) => (.r (.at .unit0))
def f111_k0 : (Int × Bool × (List Int) × (List Int)) → List (Nat × Blk) := fun (y0, y1, y2, y3) => [(36, (.var [.cell (.int .i64 y0), .cell (.bool y1), .arr (.int .i64) 16 y2, .arr (.int .i64) 9 y3]))]
def f111_k (x1 x2 x3 : Int) (x4 : Bool) (x5 x6 : LI) : (Int × Bool × (List Int) × (List Int)) → List (Nat × Blk) := fun (y0, y1, y2, y3) => [(36, (.var [.cell (.int .i64 y0), .cell (.bool y1), .arr (.int .i64) 16 y2, .arr (.int .i64) 9 y3]))]
def f111_A (x1 x2 x3 : Int) (x4 : Bool) (x5 x6 : LI) : List G := [(.r (.at (.ptr 36 0 0))), (GI x1), (GI x2)]
def f111_K (x1 x2 x3 : Int) (x4 : Bool) (x5 x6 : LI) : List (Nat × Blk) := [(36, (.var [.cell (.int .i64 x3), .cell (.bool x4), .arr (.int .i64) 16 x5, .arr (.int .i64) 9 x6]))]
def f111_C (x1 x2 x3 : Int) (x4 : Bool) (x5 x6 : LI) (r : Int × Bool × (List Int) × (List Int)) : Prop := CallOK cx 111 (f111_A x1 x2 x3 x4 x5 x6) (f111_K x1 x2 x3 x4 x5 x6) [] (f111_v r) (f111_k x1 x2 x3 x4 x5 x6 r)

def f59_M : List Nat := [68]
def f59_v : (List Int) → G := fun y0 => (.r (.at (.sl 68 0 (List.length y0))))
def f59_k0 : (List Int) → List (Nat × Blk) := fun y0 => [(68, (.gr (.int .i64) 3 y0 true))]
def f59_k (x1 : LI) : (List Int) → List (Nat × Blk) := fun y0 => [(68, (.gr (.int .i64) 3 y0 true))]
def f59_A (x1 : LI) : List G := [(GL x1)]
def f59_K (x1 : LI) : List (Nat × Blk) := []
def f59_C (x1 : LI) (r : (List Int)) : Prop := CallOK cx 59 (f59_A x1) (f59_K x1) [] (f59_v r) (f59_k x1 r)

def f112_M : List Nat := [66, 67, 68]
def f112_v : (Int × Bool × (List Int)) → G := fun (y0, y1, y2) => (.r (.agg [.cell (.int .i64 y0), .cell (.bool y1), .cell (.lst (.int .i64) y2 false)]))
def f112_k0 : (Int × Bool × (List Int)) → List (Nat × Blk) := fun (y0, y1, y2) => []
def f112_k (x1 : LI) (x2 : Int) (x3 : Bool) (x4 x5 : LI) : (Int × Bool × (List Int)) → List (Nat × Blk) := fun (y0, y1, y2) => [(36, (.var [.cell (.int .i64 x2), .cell (.bool x3), .arr (.int .i64) 16 x4, .arr (.int .i64) 9 x5]))]
def f112_A (x1 : LI) (x2 : Int) (x3 : Bool) (x4 x5 : LI) : List G := [(.r (.at (.ptr 36 0 0))), (.r (.agg [.arr (.int .i64) 16 x1]))]
def f112_K (x1 : LI) (x2 : Int) (x3 : Bool) (x4 x5 : LI) : List (Nat × Blk) := [(36, (.var [.cell (.int .i64 x2), .cell (.bool x3), .arr (.int .i64) 16 x4, .arr (.int .i64) 9 x5]))]
def f112_C (x1 : LI) (x2 : Int) (x3 : Bool) (x4 x5 : LI) (r : Int × Bool × (List Int)) : Prop := CallOK cx 112 (f112_A x1 x2 x3 x4 x5) (f112_K x1 x2 x3 x4 x5) [] (f112_v r) (f112_k x1 x2 x3 x4 x5 r)

def f74_M : List Nat := [36, 64, 65]
def f74_v : (Int × Bool × (List Int) × Int) → G := fun (y0, y1, y2, y3) => (.tup [(.agg [.cell (.int .i64 y0), .cell (.bool y1), .cell (.lst (.int .i64) y2 false)]), (.at (.int .i64 y3))])
def f74_k0 : (Int × Bool × (List Int) × Int) → List (Nat × Blk) := fun (y0, y1, y2, y3) => []
def f74_k (x1 : Int) (x2 : Bool) (x3 : LI) (x4 x5 : Int) : (Int × Bool × (List Int) × Int) → List (Nat × Blk) := fun (y0, y1, y2, y3) => []
def f74_A (x1 : Int) (x2 : Bool) (x3 : LI) (x4 x5 : Int) : List G := [(.r (.agg [.cell (.int .i64 x1), .cell (.bool x2), .cell (.lst (.int .i64) x3 false)])), (GI x4), (GI x5)]
def f74_K (x1 : Int) (x2 : Bool) (x3 : LI) (x4 x5 : Int) : List (Nat × Blk) := []
def f74_C (x1 : Int) (x2 : Bool) (x3 : LI) (x4 x5 : Int) (r : Int × Bool × (List Int) × Int) : Prop := CallOK cx 74 (f74_A x1 x2 x3 x4 x5) (f74_K x1 x2 x3 x4 x5) [] (f74_v r) (f74_k x1 x2 x3 x4 x5 r)

def f34_M : List Nat := [58, 59, 60, 61, 69]
def f34_p1_H (x1 : Int) (x2 : Bool) (x3 : LI) (x23 x24 : Int) (x25 : Bool) (x26 : Int) (x27 : Bool) (x28 : LI) : GS := ⟨[(0, (GI x1)), (1, (GB x2)), (5, (.r (.at (.ptr 58 0 0)))), (6, (.r (.at (.ptr 59 0 0)))), (8, (.r (.at (.ptr 61 0 0)))), (9, (GI x23))], [(58, (.var [.arr (.int .u8) 8 x3])), (59, (.var [.cell (.int .i64 x24), .cell (.bool x25), .cell .nils])), (61, (.var [.cell (.int .i64 x26), .cell (.bool x27), .cell (.lst (.int .i64) x28 false)]))]⟩
def f34_p1_x : f34_p1_R → GExit := fun
 | .c0 y0 y1 y2 => .ret
 | .c1 y0 y1 y2 y3 y4 => (.exit 0)
def f34_p1_s (x1 : Int) (x2 : Bool) (x3 : LI) : f34_p1_R → GS := fun
 | .c0 y0 y1 y2 => ⟨[(6, (.r (.at (.ptr 59 0 0)))), (7, (.r (.at (.bool false))))], [(59, (.var [.cell (.int .i64 y0), .cell (.bool y1), .cell (.lst (.int .i64) y2 false)]))]⟩
 | .c1 y0 y1 y2 y3 y4 => ⟨[(6, (.r (.at (.ptr 59 0 0)))), (8, (.r (.at (.ptr 61 0 0))))], [(59, (.var [.cell (.int .i64 y0), .cell (.bool y1), .cell .nils])), (61, (.var [.cell (.int .i64 y2), .cell (.bool y3), .cell (.lst (.int .i64) y4 false)]))]⟩
def f34_p1_P (x1 : Int) (x2 : Bool) (x3 : LI) (x23 x24 : Int) (x25 : Bool) (x26 : Int) (x27 : Bool) (x28 : LI) (r : f34_p1_R) : Prop := Lp cx f34_M 86 (part Tryd.f34 1) (f34_p1_H x1 x2 x3 x23 x24 x25 x26 x27 x28) (f34_p1_x r) (f34_p1_s x1 x2 x3 r)
def f34_v : (Int × Bool × (List Int) × Bool) → G := fun (y0, y1, y2, y3) => (.tup [(.agg [.cell (.int .i64 y0), .cell (.bool y1), .cell (.lst (.int .i64) y2 false)]), (.at (.bool y3))])
def f34_k0 : (Int × Bool × (List Int) × Bool) → List (Nat × Blk) := fun (y0, y1, y2, y3) => []
def f34_k (x1 : Int) (x2 : Bool) (x3 : LI) : (Int × Bool × (List Int) × Bool) → List (Nat × Blk) := fun (y0, y1, y2, y3) => []
def f34_A (x1 : Int) (x2 : Bool) (x3 : LI) : List G := [(GI x1), (GB x2), (.r (.agg [.arr (.int .u8) 8 x3]))]
def f34_K (x1 : Int) (x2 : Bool) (x3 : LI) : List (Nat × Blk) := []
def f34_C (x1 : Int) (x2 : Bool) (x3 : LI) (r : Int × Bool × (List Int) × Bool) : Prop := CallOK cx 34 (f34_A x1 x2 x3) (f34_K x1 x2 x3) [] (f34_v r) (f34_k x1 x2 x3 r)

def f59_1_M : List Nat := [74]
def f59_1_v : (List Int) → G := fun y0 => (GL y0)
def f59_1_k0 : (List Int) → List (Nat × Blk) := fun y0 => []
def f59_1_k (x1 x2 : Nat) (x3 : Int) (x4 : Bool) (x5 x6 : LI) : (List Int) → List (Nat × Blk) := fun y0 => [(36, (.var [.cell (.int .i64 x3), .cell (.bool x4), .arr (.int .i64) 16 x5, .arr (.int .i64) 9 x6]))]
def f59_1_A (x1 x2 : Nat) (x3 : Int) (x4 : Bool) (x5 x6 : LI) : List G := [(.r (.at (.vw 36 2 x1 x2)))]
def f59_1_K (x1 x2 : Nat) (x3 : Int) (x4 : Bool) (x5 x6 : LI) : List (Nat × Blk) := [(36, (.var [.cell (.int .i64 x3), .cell (.bool x4), .arr (.int .i64) 16 x5, .arr (.int .i64) 9 x6]))]
def f59_1_C (x1 x2 : Nat) (x3 : Int) (x4 : Bool) (x5 x6 : LI) (r : (List Int)) : Prop := CallOK cx 59 (f59_1_A x1 x2 x3 x4 x5 x6) (f59_1_K x1 x2 x3 x4 x5 x6) [] (f59_1_v r) (f59_1_k x1 x2 x3 x4 x5 x6 r)

def f35_M : List Nat := [36, 73]
def f35_v : ((List Int) × Int) → G := fun (y0, y1) => (.tup [(.at (.lst (.int .i64) y0 false)), (.at (.int .i64 y1))])
def f35_k0 : ((List Int) × Int) → List (Nat × Blk) := fun (y0, y1) => []
def f35_k (x1 : Int) (x2 : Bool) (x3 : LI) (x4 : Int) : ((List Int) × Int) → List (Nat × Blk) := fun (y0, y1) => []
def f35_A (x1 : Int) (x2 : Bool) (x3 : LI) (x4 : Int) : List G := [(.r (.agg [.cell (.int .i64 x1), .cell (.bool x2), .cell (.lst (.int .i64) x3 false)])), (GI x4)]
def f35_K (x1 : Int) (x2 : Bool) (x3 : LI) (x4 : Int) : List (Nat × Blk) := []
def f35_C (x1 : Int) (x2 : Bool) (x3 : LI) (x4 : Int) (r : (List Int) × Int) : Prop := CallOK cx 35 (f35_A x1 x2 x3 x4) (f35_K x1 x2 x3 x4) [] (f35_v r) (f35_k x1 x2 x3 x4 r)

def f78_M : List Nat := [79]
def f78_p1_H (x1 : List (Int × (Int × Unit))) (x2 : LI) (x3 : Int) : GS := ⟨[(0, (.r (.at (.lst pMb x1 false)))), (3, (.r (.at (.ptr 79 0 0)))), (7, (.r (.at (.int .i64 (LN x1))))), (8, (GI x3))], [(79, (.var [.arr (.int .i64) 2 x2]))]⟩
def f78_p1_x : f78_p1_R → GExit := fun
 | .c0 y0 => .ret
 | .c1 => (.exit 0)
def f78_p1_s (x1 : List (Int × (Int × Unit))) (x2 : LI) : f78_p1_R → GS := fun
 | .c0 y0 => ⟨[(4, (GI y0))], []⟩
 | .c1 => ⟨[], []⟩
def f78_p1_P (x1 : List (Int × (Int × Unit))) (x2 : LI) (x3 : Int) (r : f78_p1_R) : Prop := Lp cx f78_M 19 (part Tryd.f78 1) (f78_p1_H x1 x2 x3) (f78_p1_x r) (f78_p1_s x1 x2 r)
def f78_v : Int → G := fun y0 => (GI y0)
def f78_k0 : Int → List (Nat × Blk) := fun y0 => []
def f78_k (x1 : List (Int × (Int × Unit))) (x2 : LI) : Int → List (Nat × Blk) := fun y0 => []
def f78_A (x1 : List (Int × (Int × Unit))) (x2 : LI) : List G := [(.r (.at (.lst pMb x1 false))), (.r (.agg [.arr (.int .i64) 2 x2]))]
def f78_K (x1 : List (Int × (Int × Unit))) (x2 : LI) : List (Nat × Blk) := []
def f78_C (x1 : List (Int × (Int × Unit))) (x2 : LI) (r : Int) : Prop := CallOK cx 78 (f78_A x1 x2) (f78_K x1 x2) [] (f78_v r) (f78_k x1 x2 r)

def f38_M : List Nat := [78]
def f38_v : Bool → G := fun y0 => (GB y0)
def f38_k0 : Bool → List (Nat × Blk) := fun y0 => []
def f38_k (x1 : List (Int × (Int × Unit))) (x2 : LI) : Bool → List (Nat × Blk) := fun y0 => []
def f38_A (x1 : List (Int × (Int × Unit))) (x2 : LI) : List G := [(.r (.at (.lst pMb x1 false))), (.r (.agg [.arr (.int .i64) 2 x2]))]
def f38_K (x1 : List (Int × (Int × Unit))) (x2 : LI) : List (Nat × Blk) := []
def f38_C (x1 : List (Int × (Int × Unit))) (x2 : LI) (r : Bool) : Prop := CallOK cx 38 (f38_A x1 x2) (f38_K x1 x2) [] (f38_v r) (f38_k x1 x2 r)

def f7_M : List Nat := [57, 70, 71, 72, 75, 76, 77]
def f7_p2_H (x1 x4 : Int) (x5 : Bool) (x6 : LI) (x19 : Int) (x20 x21 x18 : LI) : GS := ⟨[(7, (.r (.at (.int .i64 (w64 (1 + (Int.tmod (w64 (x1)) 8))))))), (8, (.r (.at (.ptr 70 0 0)))), (10, (.r (.at (.sl 75 0 (List.length x18))))), (11, (.r (.at (.ptr 71 0 0)))), (12, (.r (.at (.ptr 72 0 0)))), (13, (GI x19))], [(70, (.var [.cell (.int .i64 x4), .cell (.bool x5), .cell (.lst (.int .i64) x6 false)])), (71, (.var [.arr (.int .i64) 9 x20])), (72, (.var [.arr (.int .i64) 9 x21])), (75, (.gr (.int .i64) 3 x18 true))]⟩
def f7_p2_x : f7_p2_R → GExit := fun
 | .c0 => .ret
 | .c1 y0 y1 y2 => (.exit 0)
def f7_p2_s (x1 x4 : Int) (x5 : Bool) (x6 : LI) : f7_p2_R → GS := fun
 | .c0 => ⟨[(6, (.r (.at (.bool false))))], []⟩
 | .c1 y0 y1 y2 => ⟨[(7, (.r (.at (.int .i64 (w64 (1 + (Int.tmod (w64 (x1)) 8))))))), (8, (.r (.at (.ptr 70 0 0)))), (10, (.r (.at (.sl 75 0 (List.length y2))))), (11, (.r (.at (.ptr 71 0 0)))), (12, (.r (.at (.ptr 72 0 0))))], [(70, (.var [.cell (.int .i64 x4), .cell (.bool x5), .cell (.lst (.int .i64) x6 false)])), (71, (.var [.arr (.int .i64) 9 y0])), (72, (.var [.arr (.int .i64) 9 y1])), (75, (.gr (.int .i64) 3 y2 true))]⟩
def f7_p2_P (x1 x4 : Int) (x5 : Bool) (x6 : LI) (x19 : Int) (x20 x21 x18 : LI) (r : f7_p2_R) : Prop := Lp cx f7_M 257 (part Tryd.f7 2) (f7_p2_H x1 x4 x5 x6 x19 x20 x21 x18) (f7_p2_x r) (f7_p2_s x1 x4 x5 x6 r)
def f7_p16_7_H (x1 : Int) (x27 : LI) (x83 x85 : Int) (x94 x99 : Int) (x100 x4 : Int) (x5 : Bool) (x6 x25 x26 : LI) (x95 : Int) (x93 : List (Int × (Int × Unit))) : GS := ⟨[(7, (.r (.at (.int .i64 (w64 (1 + (Int.tmod (w64 (x1)) 8))))))), (8, (.r (.at (.ptr 70 0 0)))), (10, (.r (.at (.sl 75 0 (List.length x27))))), (11, (.r (.at (.ptr 71 0 0)))), (12, (.r (.at (.ptr 72 0 0)))), (17, (.r (.at (.ptr 76 0 0)))), (18, (GI x83)), (19, (GI x85)), (20, (GI x94)), (102, (.r (.at (.sl 75 0 (List.length x27))))), (103, (.r (.at (.int .i64 (LN x27))))), (104, (GI x83)), (111, (.r (.at (.sl 75 0 (Int.toNat x83))))), (112, (.r (.at (.int .i64 (((Int.toNat x83) : Nat) : Int))))), (113, (GI x94)), (133, (.r (.at (.bool (decide (x99 < x100))))))], [(70, (.var [.cell (.int .i64 x4), .cell (.bool x5), .cell (.lst (.int .i64) x6 false)])), (71, (.var [.arr (.int .i64) 9 x25])), (72, (.var [.arr (.int .i64) 9 x26])), (75, (.gr (.int .i64) 3 x27 true)), (76, (.var [.cell (.int .i64 x95), .cell (.sl 77 0 (List.length x93))])), (77, (.gr pMb 34 x93 true))]⟩
def f7_p16_7_x : (List (Int × (Int × Unit))) → GExit := fun y0 => .normal
def f7_p16_7_s (x1 : Int) (x27 : LI) (x83 x85 : Int) (x94 x99 : Int) (x100 x4 : Int) (x5 : Bool) (x6 x25 x26 : LI) (x95 : Int) (x93 : List (Int × (Int × Unit))) : (List (Int × (Int × Unit))) → GS := fun y0 => ⟨[(7, (.r (.at (.int .i64 (w64 (1 + (Int.tmod (w64 (x1)) 8))))))), (8, (.r (.at (.ptr 70 0 0)))), (10, (.r (.at (.sl 75 0 (List.length x27))))), (11, (.r (.at (.ptr 71 0 0)))), (12, (.r (.at (.ptr 72 0 0)))), (17, (.r (.at (.ptr 76 0 0)))), (18, (GI x83)), (19, (GI x85)), (102, (.r (.at (.sl 75 0 (List.length x27))))), (103, (.r (.at (.int .i64 (LN x27))))), (104, (GI x83)), (111, (.r (.at (.sl 75 0 (Int.toNat x83))))), (112, (.r (.at (.int .i64 (((Int.toNat x83) : Nat) : Int))))), (113, (GI x94))], [(70, (.var [.cell (.int .i64 x4), .cell (.bool x5), .cell (.lst (.int .i64) x6 false)])), (71, (.var [.arr (.int .i64) 9 x25])), (72, (.var [.arr (.int .i64) 9 x26])), (75, (.gr (.int .i64) 3 x27 true)), (76, (.var [.cell (.int .i64 x95), .cell (.sl 77 0 (List.length y0))])), (77, (.gr pMb 34 y0 true))]⟩
def f7_p16_7_P (x1 : Int) (x27 : LI) (x83 x85 : Int) (x94 x99 : Int) (x100 x4 : Int) (x5 : Bool) (x6 x25 x26 : LI) (x95 : Int) (x93 : List (Int × (Int × Unit))) (r : (List (Int × (Int × Unit)))) : Prop := Ex cx f7_M 257 (part Tryd.f7 16) (f7_p16_7_H x1 x27 x83 x85 x94 x99 x100 x4 x5 x6 x25 x26 x95 x93) (f7_p16_7_x r) (f7_p16_7_s x1 x27 x83 x85 x94 x99 x100 x4 x5 x6 x25 x26 x95 x93 r)
def f7_p13_2_H (x1 : Int) (x27 : LI) (x83 x85 x4 : Int) (x5 : Bool) (x6 x25 x26 : LI) (x94 x95 : Int) (x93 : List (Int × (Int × Unit))) : GS := ⟨[(7, (.r (.at (.int .i64 (w64 (1 + (Int.tmod (w64 (x1)) 8))))))), (8, (.r (.at (.ptr 70 0 0)))), (10, (.r (.at (.sl 75 0 (List.length x27))))), (11, (.r (.at (.ptr 71 0 0)))), (12, (.r (.at (.ptr 72 0 0)))), (17, (.r (.at (.ptr 76 0 0)))), (18, (GI x83)), (19, (GI x85)), (102, (.r (.at (.sl 75 0 (List.length x27))))), (103, (.r (.at (.int .i64 (LN x27))))), (104, (GI x83)), (111, (.r (.at (.sl 75 0 (Int.toNat x83))))), (112, (.r (.at (.int .i64 (((Int.toNat x83) : Nat) : Int))))), (113, (GI x94))], [(70, (.var [.cell (.int .i64 x4), .cell (.bool x5), .cell (.lst (.int .i64) x6 false)])), (71, (.var [.arr (.int .i64) 9 x25])), (72, (.var [.arr (.int .i64) 9 x26])), (75, (.gr (.int .i64) 3 x27 true)), (76, (.var [.cell (.int .i64 x95), .cell (.sl 77 0 (List.length x93))])), (77, (.gr pMb 34 x93 true))]⟩
def f7_p13_2_x : (Int × (List (Int × (Int × Unit)))) → GExit := fun (y0, y1) => (.exit 4)
def f7_p13_2_s (x1 : Int) (x27 : LI) (x83 x85 x4 : Int) (x5 : Bool) (x6 x25 x26 : LI) : (Int × (List (Int × (Int × Unit)))) → GS := fun (y0, y1) => ⟨[(7, (.r (.at (.int .i64 (w64 (1 + (Int.tmod (w64 (x1)) 8))))))), (8, (.r (.at (.ptr 70 0 0)))), (10, (.r (.at (.sl 75 0 (List.length x27))))), (11, (.r (.at (.ptr 71 0 0)))), (12, (.r (.at (.ptr 72 0 0)))), (17, (.r (.at (.ptr 76 0 0)))), (102, (.r (.at (.sl 75 0 (List.length x27))))), (103, (.r (.at (.int .i64 (LN x27))))), (104, (GI x83))], [(70, (.var [.cell (.int .i64 x4), .cell (.bool x5), .cell (.lst (.int .i64) x6 false)])), (71, (.var [.arr (.int .i64) 9 x25])), (72, (.var [.arr (.int .i64) 9 x26])), (75, (.gr (.int .i64) 3 x27 true)), (76, (.var [.cell (.int .i64 y0), .cell (.sl 77 0 (List.length y1))])), (77, (.gr pMb 34 y1 true))]⟩
def f7_p13_2_P (x1 : Int) (x27 : LI) (x83 x85 x4 : Int) (x5 : Bool) (x6 x25 x26 : LI) (x94 x95 : Int) (x93 : List (Int × (Int × Unit))) (r : Int × (List (Int × (Int × Unit)))) : Prop := Lp cx f7_M 257 (part Tryd.f7 13) (f7_p13_2_H x1 x27 x83 x85 x4 x5 x6 x25 x26 x94 x95 x93) (f7_p13_2_x r) (f7_p13_2_s x1 x27 x83 x85 x4 x5 x6 x25 x26 r)
def f7_p9_H (x1 : Int) (x27 : LI) (x4 : Int) (x5 : Bool) (x6 x25 x26 : LI) (x83 x84 : Int) (x82 : List (Int × (Int × Unit))) : GS := ⟨[(7, (.r (.at (.int .i64 (w64 (1 + (Int.tmod (w64 (x1)) 8))))))), (8, (.r (.at (.ptr 70 0 0)))), (10, (.r (.at (.sl 75 0 (List.length x27))))), (11, (.r (.at (.ptr 71 0 0)))), (12, (.r (.at (.ptr 72 0 0)))), (17, (.r (.at (.ptr 76 0 0)))), (102, (.r (.at (.sl 75 0 (List.length x27))))), (103, (.r (.at (.int .i64 (LN x27))))), (104, (GI x83))], [(70, (.var [.cell (.int .i64 x4), .cell (.bool x5), .cell (.lst (.int .i64) x6 false)])), (71, (.var [.arr (.int .i64) 9 x25])), (72, (.var [.arr (.int .i64) 9 x26])), (75, (.gr (.int .i64) 3 x27 true)), (76, (.var [.cell (.int .i64 x84), .cell (.sl 77 0 (List.length x82))])), (77, (.gr pMb 34 x82 true))]⟩
def f7_p9_x : (Int × (List (Int × (Int × Unit)))) → GExit := fun (y0, y1) => (.exit 2)
def f7_p9_s (x1 : Int) (x27 : LI) (x4 : Int) (x5 : Bool) (x6 x25 x26 : LI) : (Int × (List (Int × (Int × Unit)))) → GS := fun (y0, y1) => ⟨[(7, (.r (.at (.int .i64 (w64 (1 + (Int.tmod (w64 (x1)) 8))))))), (8, (.r (.at (.ptr 70 0 0)))), (10, (.r (.at (.sl 75 0 (List.length x27))))), (11, (.r (.at (.ptr 71 0 0)))), (12, (.r (.at (.ptr 72 0 0)))), (17, (.r (.at (.ptr 76 0 0))))], [(70, (.var [.cell (.int .i64 x4), .cell (.bool x5), .cell (.lst (.int .i64) x6 false)])), (71, (.var [.arr (.int .i64) 9 x25])), (72, (.var [.arr (.int .i64) 9 x26])), (75, (.gr (.int .i64) 3 x27 true)), (76, (.var [.cell (.int .i64 y0), .cell (.sl 77 0 (List.length y1))])), (77, (.gr pMb 34 y1 true))]⟩
def f7_p9_P (x1 : Int) (x27 : LI) (x4 : Int) (x5 : Bool) (x6 x25 x26 : LI) (x83 x84 : Int) (x82 : List (Int × (Int × Unit))) (r : Int × (List (Int × (Int × Unit)))) : Prop := Lp cx f7_M 257 (part Tryd.f7 9) (f7_p9_H x1 x27 x4 x5 x6 x25 x26 x83 x84 x82) (f7_p9_x r) (f7_p9_s x1 x27 x4 x5 x6 x25 x26 r)
def f7_p25_H (x27 : LI) (x106 x107 : Int) (x108 x1 : Int) (x109 x112 x4 : Int) (x5 : Bool) (x6 x25 x26 : LI) (x104 : Int) (x105 : List (Int × (Int × Unit))) : GS := ⟨[(8, (.r (.at (.ptr 70 0 0)))), (10, (.r (.at (.sl 75 0 (List.length x27))))), (11, (.r (.at (.ptr 71 0 0)))), (12, (.r (.at (.ptr 72 0 0)))), (17, (.r (.at (.ptr 76 0 0)))), (22, (GI x106)), (23, (GI x107)), (24, (GI x108)), (145, (.r (.at (.int .i64 (w64 (2 * (w64 (1 + (Int.tmod (w64 (x1)) 8))))))))), (146, (GI x107)), (149, (.r (.at (.sl 75 0 (List.length x27))))), (150, (.r (.at (.int .i64 (LN x27))))), (151, (GI x109)), (166, (.r (.at (.bool (decide (x107 < x112))))))], [(70, (.var [.cell (.int .i64 x4), .cell (.bool x5), .cell (.lst (.int .i64) x6 false)])), (71, (.var [.arr (.int .i64) 9 x25])), (72, (.var [.arr (.int .i64) 9 x26])), (75, (.gr (.int .i64) 3 x27 true)), (76, (.var [.cell (.int .i64 x104), .cell (.sl 77 0 (List.length x105))])), (77, (.gr pMb 34 x105 true))]⟩
def f7_p25_x : Int → GExit := fun y0 => .normal
def f7_p25_s (x27 : LI) (x106 x107 : Int) (x108 x1 : Int) (x109 x112 x4 : Int) (x5 : Bool) (x6 x25 x26 : LI) (x104 : Int) (x105 : List (Int × (Int × Unit))) : Int → GS := fun y0 => ⟨[(8, (.r (.at (.ptr 70 0 0)))), (10, (.r (.at (.sl 75 0 (List.length x27))))), (11, (.r (.at (.ptr 71 0 0)))), (12, (.r (.at (.ptr 72 0 0)))), (17, (.r (.at (.ptr 76 0 0)))), (22, (GI x106)), (23, (GI x107)), (24, (GI y0)), (145, (.r (.at (.int .i64 (w64 (2 * (w64 (1 + (Int.tmod (w64 (x1)) 8))))))))), (146, (GI x107)), (149, (.r (.at (.sl 75 0 (List.length x27))))), (150, (.r (.at (.int .i64 (LN x27))))), (151, (GI x109))], [(70, (.var [.cell (.int .i64 x4), .cell (.bool x5), .cell (.lst (.int .i64) x6 false)])), (71, (.var [.arr (.int .i64) 9 x25])), (72, (.var [.arr (.int .i64) 9 x26])), (75, (.gr (.int .i64) 3 x27 true)), (76, (.var [.cell (.int .i64 x104), .cell (.sl 77 0 (List.length x105))])), (77, (.gr pMb 34 x105 true))]⟩
def f7_p25_P (x27 : LI) (x106 x107 : Int) (x108 x1 : Int) (x109 x112 x4 : Int) (x5 : Bool) (x6 x25 x26 : LI) (x104 : Int) (x105 : List (Int × (Int × Unit))) (r : Int) : Prop := Ex cx f7_M 257 (part Tryd.f7 25) (f7_p25_H x27 x106 x107 x108 x1 x109 x112 x4 x5 x6 x25 x26 x104 x105) (f7_p25_x r) (f7_p25_s x27 x106 x107 x108 x1 x109 x112 x4 x5 x6 x25 x26 x104 x105 r)
def f7_p22_H (x27 : LI) (x106 x107 : Int) (x1 x4 : Int) (x5 : Bool) (x6 x25 x26 : LI) (x104 : Int) (x105 : List (Int × (Int × Unit))) (x108 x109 : Int) : GS := ⟨[(8, (.r (.at (.ptr 70 0 0)))), (10, (.r (.at (.sl 75 0 (List.length x27))))), (11, (.r (.at (.ptr 71 0 0)))), (12, (.r (.at (.ptr 72 0 0)))), (17, (.r (.at (.ptr 76 0 0)))), (22, (GI x106)), (23, (GI x107)), (24, (GI x108)), (145, (.r (.at (.int .i64 (w64 (2 * (w64 (1 + (Int.tmod (w64 (x1)) 8))))))))), (146, (GI x107)), (149, (.r (.at (.sl 75 0 (List.length x27))))), (150, (.r (.at (.int .i64 (LN x27))))), (151, (GI x109))], [(70, (.var [.cell (.int .i64 x4), .cell (.bool x5), .cell (.lst (.int .i64) x6 false)])), (71, (.var [.arr (.int .i64) 9 x25])), (72, (.var [.arr (.int .i64) 9 x26])), (75, (.gr (.int .i64) 3 x27 true)), (76, (.var [.cell (.int .i64 x104), .cell (.sl 77 0 (List.length x105))])), (77, (.gr pMb 34 x105 true))]⟩
def f7_p22_x : Int → GExit := fun y0 => (.exit 8)
def f7_p22_s (x27 : LI) (x106 x107 : Int) (x1 x4 : Int) (x5 : Bool) (x6 x25 x26 : LI) (x104 : Int) (x105 : List (Int × (Int × Unit))) : Int → GS := fun y0 => ⟨[(8, (.r (.at (.ptr 70 0 0)))), (10, (.r (.at (.sl 75 0 (List.length x27))))), (11, (.r (.at (.ptr 71 0 0)))), (12, (.r (.at (.ptr 72 0 0)))), (17, (.r (.at (.ptr 76 0 0)))), (22, (GI x106)), (24, (GI y0)), (145, (.r (.at (.int .i64 (w64 (2 * (w64 (1 + (Int.tmod (w64 (x1)) 8))))))))), (146, (GI x107))], [(70, (.var [.cell (.int .i64 x4), .cell (.bool x5), .cell (.lst (.int .i64) x6 false)])), (71, (.var [.arr (.int .i64) 9 x25])), (72, (.var [.arr (.int .i64) 9 x26])), (75, (.gr (.int .i64) 3 x27 true)), (76, (.var [.cell (.int .i64 x104), .cell (.sl 77 0 (List.length x105))])), (77, (.gr pMb 34 x105 true))]⟩
def f7_p22_P (x27 : LI) (x106 x107 : Int) (x1 x4 : Int) (x5 : Bool) (x6 x25 x26 : LI) (x104 : Int) (x105 : List (Int × (Int × Unit))) (x108 x109 : Int) (r : Int) : Prop := Lp cx f7_M 257 (part Tryd.f7 22) (f7_p22_H x27 x106 x107 x1 x4 x5 x6 x25 x26 x104 x105 x108 x109) (f7_p22_x r) (f7_p22_s x27 x106 x107 x1 x4 x5 x6 x25 x26 x104 x105 r)
def f7_p18_H (x27 : LI) (x1 x4 : Int) (x5 : Bool) (x6 x25 x26 : LI) (x104 : Int) (x105 : List (Int × (Int × Unit))) (x106 x107 : Int) : GS := ⟨[(8, (.r (.at (.ptr 70 0 0)))), (10, (.r (.at (.sl 75 0 (List.length x27))))), (11, (.r (.at (.ptr 71 0 0)))), (12, (.r (.at (.ptr 72 0 0)))), (17, (.r (.at (.ptr 76 0 0)))), (22, (GI x106)), (145, (.r (.at (.int .i64 (w64 (2 * (w64 (1 + (Int.tmod (w64 (x1)) 8))))))))), (146, (GI x107))], [(70, (.var [.cell (.int .i64 x4), .cell (.bool x5), .cell (.lst (.int .i64) x6 false)])), (71, (.var [.arr (.int .i64) 9 x25])), (72, (.var [.arr (.int .i64) 9 x26])), (75, (.gr (.int .i64) 3 x27 true)), (76, (.var [.cell (.int .i64 x104), .cell (.sl 77 0 (List.length x105))])), (77, (.gr pMb 34 x105 true))]⟩
def f7_p18_x : Int → GExit := fun y0 => (.exit 6)
def f7_p18_s (x27 : LI) (x1 x4 : Int) (x5 : Bool) (x6 x25 x26 : LI) (x104 : Int) (x105 : List (Int × (Int × Unit))) : Int → GS := fun y0 => ⟨[(8, (.r (.at (.ptr 70 0 0)))), (10, (.r (.at (.sl 75 0 (List.length x27))))), (17, (.r (.at (.ptr 76 0 0)))), (22, (GI y0))], [(70, (.var [.cell (.int .i64 x4), .cell (.bool x5), .cell (.lst (.int .i64) x6 false)])), (75, (.gr (.int .i64) 3 x27 true)), (76, (.var [.cell (.int .i64 x104), .cell (.sl 77 0 (List.length x105))])), (77, (.gr pMb 34 x105 true))]⟩
def f7_p18_P (x27 : LI) (x1 x4 : Int) (x5 : Bool) (x6 x25 x26 : LI) (x104 : Int) (x105 : List (Int × (Int × Unit))) (x106 x107 : Int) (r : Int) : Prop := Lp cx f7_M 257 (part Tryd.f7 18) (f7_p18_H x27 x1 x4 x5 x6 x25 x26 x104 x105 x106 x107) (f7_p18_x r) (f7_p18_s x27 x1 x4 x5 x6 x25 x26 x104 x105 r)
def f7_p33_H (x27 : LI) (x121 : Int) (x123 : LI) (x4 : Int) (x5 : Bool) (x6 : LI) (x104 : Int) (x105 : List (Int × (Int × Unit))) (x125 : Int) : GS := ⟨[(8, (.r (.at (.ptr 70 0 0)))), (10, (.r (.at (.sl 75 0 (List.length x27))))), (17, (.r (.at (.ptr 76 0 0)))), (31, (GI x121)), (210, (.r (.at (.sl 75 0 (List.length x27))))), (211, (.r (.at (.int .i64 (LN x27))))), (212, (GI x121)), (225, (GL x123)), (226, (.r (.at (.int .i64 (LN x123))))), (227, (GI x125))], [(70, (.var [.cell (.int .i64 x4), .cell (.bool x5), .cell (.lst (.int .i64) x6 false)])), (75, (.gr (.int .i64) 3 x27 true)), (76, (.var [.cell (.int .i64 x104), .cell (.lst pMb ((List.drop 0 (List.take (0 + (List.length x105)) x105)) : List (Int × (Int × Unit))) false)]))]⟩
def f7_p33_x : f7_p33_R → GExit := fun
 | .c0 => .ret
 | .c1 => (.exit 12)
def f7_p33_s (x27 : LI) (x121 : Int) (x123 : LI) (x4 : Int) (x5 : Bool) (x6 : LI) (x104 : Int) (x105 : List (Int × (Int × Unit))) : f7_p33_R → GS := fun
 | .c0 => ⟨[(6, (.r (.at (.bool false))))], []⟩
 | .c1 => ⟨[(8, (.r (.at (.ptr 70 0 0)))), (10, (.r (.at (.sl 75 0 (List.length x27))))), (17, (.r (.at (.ptr 76 0 0)))), (210, (.r (.at (.sl 75 0 (List.length x27))))), (211, (.r (.at (.int .i64 (LN x27))))), (212, (GI x121))], [(70, (.var [.cell (.int .i64 x4), .cell (.bool x5), .cell (.lst (.int .i64) x6 false)])), (75, (.gr (.int .i64) 3 x27 true)), (76, (.var [.cell (.int .i64 x104), .cell (.lst pMb ((List.drop 0 (List.take (0 + (List.length x105)) x105)) : List (Int × (Int × Unit))) false)]))]⟩
def f7_p33_P (x27 : LI) (x121 : Int) (x123 : LI) (x4 : Int) (x5 : Bool) (x6 : LI) (x104 : Int) (x105 : List (Int × (Int × Unit))) (x125 : Int) (r : f7_p33_R) : Prop := Lp cx f7_M 257 (part Tryd.f7 33) (f7_p33_H x27 x121 x123 x4 x5 x6 x104 x105 x125) (f7_p33_x r) (f7_p33_s x27 x121 x123 x4 x5 x6 x104 x105 r)
def f7_p28_H (x27 : LI) (x4 : Int) (x5 : Bool) (x6 : LI) (x104 : Int) (x105 : List (Int × (Int × Unit))) (x121 : Int) : GS := ⟨[(8, (.r (.at (.ptr 70 0 0)))), (10, (.r (.at (.sl 75 0 (List.length x27))))), (17, (.r (.at (.ptr 76 0 0)))), (210, (.r (.at (.sl 75 0 (List.length x27))))), (211, (.r (.at (.int .i64 (LN x27))))), (212, (GI x121))], [(70, (.var [.cell (.int .i64 x4), .cell (.bool x5), .cell (.lst (.int .i64) x6 false)])), (75, (.gr (.int .i64) 3 x27 true)), (76, (.var [.cell (.int .i64 x104), .cell (.lst pMb ((List.drop 0 (List.take (0 + (List.length x105)) x105)) : List (Int × (Int × Unit))) false)]))]⟩
def f7_p28_x : f7_p28_R → GExit := fun
 | .c0 => .ret
 | .c1 => (.exit 10)
def f7_p28_s (x27 : LI) (x4 : Int) (x5 : Bool) (x6 : LI) (x104 : Int) (x105 : List (Int × (Int × Unit))) : f7_p28_R → GS := fun
 | .c0 => ⟨[(6, (.r (.at (.bool false))))], []⟩
 | .c1 => ⟨[], []⟩
def f7_p28_P (x27 : LI) (x4 : Int) (x5 : Bool) (x6 : LI) (x104 : Int) (x105 : List (Int × (Int × Unit))) (x121 : Int) (r : f7_p28_R) : Prop := Lp cx f7_M 257 (part Tryd.f7 28) (f7_p28_H x27 x4 x5 x6 x104 x105 x121) (f7_p28_x r) (f7_p28_s x27 x4 x5 x6 x104 x105 r)
def f7_v : Bool → G := fun y0 => (GB y0)
def f7_k0 : Bool → List (Nat × Blk) := fun y0 => []
def f7_k (x1 : Int) (x2 : Bool) (x3 : LI) : Bool → List (Nat × Blk) := fun y0 => []
def f7_A (x1 : Int) (x2 : Bool) (x3 : LI) : List G := [(.r (.at (.int .u8 x1))), (GB x2), (.r (.agg [.arr (.int .u8) 8 x3]))]
def f7_K (x1 : Int) (x2 : Bool) (x3 : LI) : List (Nat × Blk) := []
def f7_C (x1 : Int) (x2 : Bool) (x3 : LI) (r : Bool) : Prop := CallOK cx 7 (f7_A x1 x2 x3) (f7_K x1 x2 x3) [] (f7_v r) (f7_k x1 x2 x3 r)

end
end Go.Gh.Top
