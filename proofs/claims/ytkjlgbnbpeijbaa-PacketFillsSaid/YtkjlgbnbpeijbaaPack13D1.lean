/- Pack13D1: printed by wip/tool/gx.py -/
import Derived.Test.YtkjlgbnbpeijbaaPack13D0
namespace Go.Gh.Pack
set_option linter.unusedVariables false
set_option linter.unusedSimpArgs false
noncomputable section
open Go.Proofs

def f58_M : List Nat := []
def f58_p0_H (x1 x2 : LI) (x3 : Int) (x4 : LI) (x6 : Int) : GS := ⟨[(0, (GL x1)), (1, (GL x2)), (2, (GI x3)), (3, (GL x4)), (9, (GI x6)), (25, (.r (.at (.bool ((LN x4) != (LN x1))))))], []⟩
def f58_p0_x : Int → GExit := fun y0 => .normal
def f58_p0_s (x1 x2 : LI) (x3 : Int) (x4 : LI) (x6 : Int) : Int → GS := fun y0 => ⟨[(0, (GL x1)), (1, (GL x2)), (2, (GI x3)), (3, (GL x4)), (9, (GI y0))], []⟩
def f58_p0_P (x1 x2 : LI) (x3 : Int) (x4 : LI) (x6 : Int) (r : Int) : Prop := Ex cx f58_M 65 (part Try.f58 0) (f58_p0_H x1 x2 x3 x4 x6) (f58_p0_x r) (f58_p0_s x1 x2 x3 x4 x6 r)
def f58_p5_H (x1 x2 : LI) (x3 : Int) (x4 : LI) (x8 x9 x10 : Int) (x13 : Bool) : GS := ⟨[(0, (GL x1)), (1, (GL x2)), (2, (GI x3)), (3, (GL x4)), (9, (GI x8)), (10, (GI x9)), (11, (GI x10)), (45, (.r (.at (.bool (!x13)))))], []⟩
def f58_p5_x : (Int × Int) → GExit := fun (y0, y1) => .normal
def f58_p5_s (x1 x2 : LI) (x3 : Int) (x4 : LI) (x8 x9 x10 : Int) (x13 : Bool) : (Int × Int) → GS := fun (y0, y1) => ⟨[(0, (GL x1)), (1, (GL x2)), (2, (GI x3)), (3, (GL x4)), (9, (GI y0)), (10, (GI y1)), (11, (GI x10))], []⟩
def f58_p5_P (x1 x2 : LI) (x3 : Int) (x4 : LI) (x8 x9 x10 : Int) (x13 : Bool) (r : Int × Int) : Prop := Ex cx f58_M 65 (part Try.f58 5) (f58_p5_H x1 x2 x3 x4 x8 x9 x10 x13) (f58_p5_x r) (f58_p5_s x1 x2 x3 x4 x8 x9 x10 x13 r)
def f58_p2_H (x1 x2 : LI) (x3 : Int) (x4 : LI) (x8 x9 x10 : Int) : GS := ⟨[(0, (GL x1)), (1, (GL x2)), (2, (GI x3)), (3, (GL x4)), (9, (GI x8)), (10, (GI x9)), (11, (GI x10))], []⟩
def f58_p2_x : (Int × Int) → GExit := fun (y0, y1) => (.exit 0)
def f58_p2_s (x1 x2 : LI) (x3 : Int) (x4 : LI) : (Int × Int) → GS := fun (y0, y1) => ⟨[(2, (GI x3)), (9, (GI y0)), (10, (GI y1))], []⟩
def f58_p2_P (x1 x2 : LI) (x3 : Int) (x4 : LI) (x8 x9 x10 : Int) (r : Int × Int) : Prop := Lp cx f58_M 65 (part Try.f58 2) (f58_p2_H x1 x2 x3 x4 x8 x9 x10) (f58_p2_x r) (f58_p2_s x1 x2 x3 x4 r)
def f58_p6_H (x18 x19 x3 : Int) : GS := ⟨[(9, (GI x18)), (63, (.r (.at (.bool (x19 != x3)))))], []⟩
def f58_p6_x : Int → GExit := fun y0 => .normal
def f58_p6_s (x18 x19 x3 : Int) : Int → GS := fun y0 => ⟨[(9, (GI y0))], []⟩
def f58_p6_P (x18 x19 x3 : Int) (r : Int) : Prop := Ex cx f58_M 65 (part Try.f58 6) (f58_p6_H x18 x19 x3) (f58_p6_x r) (f58_p6_s x18 x19 x3 r)
def f58_p5_1_H (x1 x2 : LI) (x3 : Int) (x4 : LI) (x21 x22 x23 : Int) (x26 : Bool) : GS := ⟨[(0, (GL x1)), (1, (GL x2)), (2, (GI x3)), (3, (GL x4)), (9, (GI x21)), (10, (GI x22)), (11, (GI x23)), (45, (.r (.at (.bool (!x26)))))], []⟩
def f58_p5_1_x : (Int × Int) → GExit := fun (y0, y1) => .normal
def f58_p5_1_s (x1 x2 : LI) (x3 : Int) (x4 : LI) (x21 x22 x23 : Int) (x26 : Bool) : (Int × Int) → GS := fun (y0, y1) => ⟨[(0, (GL x1)), (1, (GL x2)), (2, (GI x3)), (3, (GL x4)), (9, (GI y0)), (10, (GI y1)), (11, (GI x23))], []⟩
def f58_p5_1_P (x1 x2 : LI) (x3 : Int) (x4 : LI) (x21 x22 x23 : Int) (x26 : Bool) (r : Int × Int) : Prop := Ex cx f58_M 65 (part Try.f58 5) (f58_p5_1_H x1 x2 x3 x4 x21 x22 x23 x26) (f58_p5_1_x r) (f58_p5_1_s x1 x2 x3 x4 x21 x22 x23 x26 r)
def f58_p2_1_H (x1 x2 : LI) (x3 : Int) (x4 : LI) (x21 x22 x23 : Int) : GS := ⟨[(0, (GL x1)), (1, (GL x2)), (2, (GI x3)), (3, (GL x4)), (9, (GI x21)), (10, (GI x22)), (11, (GI x23))], []⟩
def f58_p2_1_x : (Int × Int) → GExit := fun (y0, y1) => (.exit 0)
def f58_p2_1_s (x1 x2 : LI) (x3 : Int) (x4 : LI) : (Int × Int) → GS := fun (y0, y1) => ⟨[(2, (GI x3)), (9, (GI y0)), (10, (GI y1))], []⟩
def f58_p2_1_P (x1 x2 : LI) (x3 : Int) (x4 : LI) (x21 x22 x23 : Int) (r : Int × Int) : Prop := Lp cx f58_M 65 (part Try.f58 2) (f58_p2_1_H x1 x2 x3 x4 x21 x22 x23) (f58_p2_1_x r) (f58_p2_1_s x1 x2 x3 x4 r)
def f58_p6_1_H (x31 x32 x3 : Int) : GS := ⟨[(9, (GI x31)), (63, (.r (.at (.bool (x32 != x3)))))], []⟩
def f58_p6_1_x : Int → GExit := fun y0 => .normal
def f58_p6_1_s (x31 x32 x3 : Int) : Int → GS := fun y0 => ⟨[(9, (GI y0))], []⟩
def f58_p6_1_P (x31 x32 x3 : Int) (r : Int) : Prop := Ex cx f58_M 65 (part Try.f58 6) (f58_p6_1_H x31 x32 x3) (f58_p6_1_x r) (f58_p6_1_s x31 x32 x3 r)
def f58_v : Int → G := fun y0 => (GI y0)
def f58_k0 : Int → List (Nat × Blk) := fun y0 => []
def f58_k (x1 x2 : LI) (x3 : Int) (x4 : LI) : Int → List (Nat × Blk) := fun y0 => []
def f58_A (x1 x2 : LI) (x3 : Int) (x4 : LI) : List G := [(GL x1), (GL x2), (GI x3), (GL x4)]
def f58_K (x1 x2 : LI) (x3 : Int) (x4 : LI) : List (Nat × Blk) := []
def f58_C (x1 x2 : LI) (x3 : Int) (x4 : LI) (r : Int) : Prop := CallOK cx 58 (f58_A x1 x2 x3 x4) (f58_K x1 x2 x3 x4) [] (f58_v r) (f58_k x1 x2 x3 x4 r)

def f13_M : List Nat := []
def f13_v : Bool → G := fun y0 => (GB y0)
def f13_k0 : Bool → List (Nat × Blk) := fun y0 => []
def f13_k (x1 x2 : LI) (x3 : Int) (x4 : LI) : Bool → List (Nat × Blk) := fun y0 => []
def f13_A (x1 x2 : LI) (x3 : Int) (x4 : LI) : List G := [(GL x1), (GL x2), (GI x3), (GL x4)]
def f13_K (x1 x2 : LI) (x3 : Int) (x4 : LI) : List (Nat × Blk) := []
def f13_C (x1 x2 : LI) (x3 : Int) (x4 : LI) (r : Bool) : Prop := CallOK cx 13 (f13_A x1 x2 x3 x4) (f13_K x1 x2 x3 x4) [] (f13_v r) (f13_k x1 x2 x3 x4 r)

end
end Go.Gh.Pack
