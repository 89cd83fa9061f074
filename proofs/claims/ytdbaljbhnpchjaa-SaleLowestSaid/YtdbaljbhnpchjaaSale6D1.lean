/- Sale6D1: printed by wip/tool/gx.py -/
import Derived.Test.YtdbaljbhnpchjaaSale6D0
namespace Go.Gh.Sale
set_option linter.unusedVariables false
set_option linter.unusedSimpArgs false
noncomputable section
open Go.Proofs

def f90_1_M : List Nat := [147]
def f90_1_p8_3_H (x1 : LL) (x2 x3 : Nat) (x4 x31 : LI) (x30 x33 : Int) (x37 : Bool) (x5 : LI) : GS := ⟨[(0, (.r (.at (.lst (.list (.int .i64)) x1 false)))), (1, (.r (.at (.sl 144 x2 x3)))), (2, (GL x4)), (8, (.r (.at (.sl 147 0 (List.length x31))))), (9, (.r (.at (.bool true)))), (10, (GI x30)), (11, (GI x33)), (45, (.r (.at (.bool (!x37)))))], [(144, (.gr (.int .i64) 3 x5 true)), (147, (.gr (.int .i64) 3 x31 true))]⟩
def f90_1_p8_3_x : (List Int) → GExit := fun y0 => .normal
def f90_1_p8_3_s (x1 : LL) (x2 x3 : Nat) (x4 x31 : LI) (x30 x33 : Int) (x37 : Bool) (x5 : LI) : (List Int) → GS := fun y0 => ⟨[(0, (.r (.at (.lst (.list (.int .i64)) x1 false)))), (1, (.r (.at (.sl 144 x2 x3)))), (2, (GL x4)), (8, (.r (.at (.sl 147 0 (List.length y0))))), (9, (.r (.at (.bool true)))), (10, (GI x30)), (11, (GI x33))], [(144, (.gr (.int .i64) 3 x5 true)), (147, (.gr (.int .i64) 3 y0 true))]⟩
def f90_1_p8_3_P (x1 : LL) (x2 x3 : Nat) (x4 x31 : LI) (x30 x33 : Int) (x37 : Bool) (x5 : LI) (r : (List Int)) : Prop := Ex cx f90_1_M 52 (part Try.f90 8) (f90_1_p8_3_H x1 x2 x3 x4 x31 x30 x33 x37 x5) (f90_1_p8_3_x r) (f90_1_p8_3_s x1 x2 x3 x4 x31 x30 x33 x37 x5 r)
def f90_1_p8_4_H (x1 : LL) (x2 x3 : Nat) (x4 x31 : LI) (x39 : Bool) (x30 x33 : Int) (x41 : Bool) (x5 : LI) : GS := ⟨[(0, (.r (.at (.lst (.list (.int .i64)) x1 false)))), (1, (.r (.at (.sl 144 x2 x3)))), (2, (GL x4)), (8, (.r (.at (.sl 147 0 (List.length x31))))), (9, (GB x39)), (10, (GI x30)), (11, (GI x33)), (45, (.r (.at (.bool (!x41)))))], [(144, (.gr (.int .i64) 3 x5 true)), (147, (.gr (.int .i64) 3 x31 true))]⟩
def f90_1_p8_4_x : (List Int) → GExit := fun y0 => .normal
def f90_1_p8_4_s (x1 : LL) (x2 x3 : Nat) (x4 x31 : LI) (x39 : Bool) (x30 x33 : Int) (x41 : Bool) (x5 : LI) : (List Int) → GS := fun y0 => ⟨[(0, (.r (.at (.lst (.list (.int .i64)) x1 false)))), (1, (.r (.at (.sl 144 x2 x3)))), (2, (GL x4)), (8, (.r (.at (.sl 147 0 (List.length y0))))), (9, (GB x39)), (10, (GI x30)), (11, (GI x33))], [(144, (.gr (.int .i64) 3 x5 true)), (147, (.gr (.int .i64) 3 y0 true))]⟩
def f90_1_p8_4_P (x1 : LL) (x2 x3 : Nat) (x4 x31 : LI) (x39 : Bool) (x30 x33 : Int) (x41 : Bool) (x5 : LI) (r : (List Int)) : Prop := Ex cx f90_1_M 52 (part Try.f90 8) (f90_1_p8_4_H x1 x2 x3 x4 x31 x39 x30 x33 x41 x5) (f90_1_p8_4_x r) (f90_1_p8_4_s x1 x2 x3 x4 x31 x39 x30 x33 x41 x5 r)
def f90_1_p5_1_H (x1 : LL) (x2 x3 : Nat) (x4 : LI) (x30 : Int) (x5 : LI) (x32 : Bool) (x33 : Int) (x31 : LI) : GS := ⟨[(0, (.r (.at (.lst (.list (.int .i64)) x1 false)))), (1, (.r (.at (.sl 144 x2 x3)))), (2, (GL x4)), (8, (.r (.at (.sl 147 0 (List.length x31))))), (9, (GB x32)), (10, (GI x30)), (11, (GI x33))], [(144, (.gr (.int .i64) 3 x5 true)), (147, (.gr (.int .i64) 3 x31 true))]⟩
def f90_1_p5_1_x : (Bool × (List Int)) → GExit := fun (y0, y1) => (.exit 2)
def f90_1_p5_1_s (x1 : LL) (x2 x3 : Nat) (x4 : LI) (x30 : Int) (x5 : LI) : (Bool × (List Int)) → GS := fun (y0, y1) => ⟨[(0, (.r (.at (.lst (.list (.int .i64)) x1 false)))), (1, (.r (.at (.sl 144 x2 x3)))), (2, (GL x4)), (8, (.r (.at (.sl 147 0 (List.length y1))))), (9, (GB y0)), (10, (GI x30))], [(144, (.gr (.int .i64) 3 x5 true)), (147, (.gr (.int .i64) 3 y1 true))]⟩
def f90_1_p5_1_P (x1 : LL) (x2 x3 : Nat) (x4 : LI) (x30 : Int) (x5 : LI) (x32 : Bool) (x33 : Int) (x31 : LI) (r : Bool × (List Int)) : Prop := Lp cx f90_1_M 52 (part Try.f90 5) (f90_1_p5_1_H x1 x2 x3 x4 x30 x5 x32 x33 x31) (f90_1_p5_1_x r) (f90_1_p5_1_s x1 x2 x3 x4 x30 x5 r)
def f90_1_p1_H (x1 : LL) (x2 x3 : Nat) (x4 x5 : LI) (x29 : Bool) (x30 : Int) (x28 : LI) : GS := ⟨[(0, (.r (.at (.lst (.list (.int .i64)) x1 false)))), (1, (.r (.at (.sl 144 x2 x3)))), (2, (GL x4)), (8, (.r (.at (.sl 147 0 (List.length x28))))), (9, (GB x29)), (10, (GI x30))], [(144, (.gr (.int .i64) 3 x5 true)), (147, (.gr (.int .i64) 3 x28 true))]⟩
def f90_1_p1_x : (Bool × (List Int)) → GExit := fun (y0, y1) => (.exit 0)
def f90_1_p1_s (x1 : LL) (x2 x3 : Nat) (x4 x5 : LI) : (Bool × (List Int)) → GS := fun (y0, y1) => ⟨[(8, (.r (.at (.sl 147 0 (List.length y1))))), (9, (GB y0))], [(144, (.gr (.int .i64) 3 x5 true)), (147, (.gr (.int .i64) 3 y1 true))]⟩
def f90_1_p1_P (x1 : LL) (x2 x3 : Nat) (x4 x5 : LI) (x29 : Bool) (x30 : Int) (x28 : LI) (r : Bool × (List Int)) : Prop := Lp cx f90_1_M 52 (part Try.f90 1) (f90_1_p1_H x1 x2 x3 x4 x5 x29 x30 x28) (f90_1_p1_x r) (f90_1_p1_s x1 x2 x3 x4 x5 r)
def f90_1_v : ((List Int) × Bool) → G := fun (y0, y1) => (.tup [(.at (.lst (.int .i64) y0 false)), (.at (.bool y1))])
def f90_1_k0 : ((List Int) × Bool) → List (Nat × Blk) := fun (y0, y1) => []
def f90_1_k (x1 : LL) (x2 x3 : Nat) (x4 x5 : LI) : ((List Int) × Bool) → List (Nat × Blk) := fun (y0, y1) => [(144, (.gr (.int .i64) 3 x5 true))]
def f90_1_A (x1 : LL) (x2 x3 : Nat) (x4 x5 : LI) : List G := [(.r (.at (.lst (.list (.int .i64)) x1 false))), (.r (.at (.sl 144 x2 x3))), (GL x4)]
def f90_1_K (x1 : LL) (x2 x3 : Nat) (x4 x5 : LI) : List (Nat × Blk) := [(144, (.gr (.int .i64) 3 x5 true))]
def f90_1_C (x1 : LL) (x2 x3 : Nat) (x4 x5 : LI) (r : (List Int) × Bool) : Prop := CallOK cx 90 (f90_1_A x1 x2 x3 x4 x5) (f90_1_K x1 x2 x3 x4 x5) [] (f90_1_v r) (f90_1_k x1 x2 x3 x4 x5 r)

def f103_1_M : List Nat := [148]
def f103_1_p2_H (x1 : LL) (x2 x3 : Nat) (x4 : LI) (x5 : Int) (x6 : LI) : GS := ⟨[(0, (.r (.at (.lst (.list (.int .i64)) x1 false)))), (1, (.r (.at (.sl 144 x2 x3)))), (2, (GL x4)), (3, (GI x5)), (11, (.r (.at (.int .i64 0)))), (35, (.r (.at (.bool (decide ((LN x4) > 0))))))], [(144, (.gr (.int .i64) 3 x6 true))]⟩
def f103_1_p2_x : Int → GExit := fun y0 => .normal
def f103_1_p2_s (x1 : LL) (x2 x3 : Nat) (x4 : LI) (x5 : Int) (x6 : LI) : Int → GS := fun y0 => ⟨[(0, (.r (.at (.lst (.list (.int .i64)) x1 false)))), (1, (.r (.at (.sl 144 x2 x3)))), (2, (GL x4)), (3, (GI x5)), (11, (GI y0))], [(144, (.gr (.int .i64) 3 x6 true))]⟩
def f103_1_p2_P (x1 : LL) (x2 x3 : Nat) (x4 : LI) (x5 : Int) (x6 : LI) (r : Int) : Prop := Ex cx f103_1_M 64 (part Try.f103 2) (f103_1_p2_H x1 x2 x3 x4 x5 x6) (f103_1_p2_x r) (f103_1_p2_s x1 x2 x3 x4 x5 x6 r)
def f103_1_p4_H (x1 : LL) (x2 x3 : Nat) (x4 : LI) (x5 : Int) (x6 : LI) (x11 : Int) : GS := ⟨[(0, (.r (.at (.lst (.list (.int .i64)) x1 false)))), (1, (.r (.at (.sl 144 x2 x3)))), (2, (GL x4)), (3, (GI x5)), (12, (GI x11))], [(144, (.gr (.int .i64) 3 x6 true))]⟩
def f103_1_p4_x : f103_1_p4_R → GExit := fun
 | .c0 y0 => .ret
 | .c1 => (.exit 0)
def f103_1_p4_s (x1 : LL) (x2 x3 : Nat) (x4 : LI) (x5 : Int) (x6 : LI) : f103_1_p4_R → GS := fun
 | .c0 y0 => ⟨[(8, (GL y0))], [(144, (.gr (.int .i64) 3 x6 true))]⟩
 | .c1 => ⟨[], [(144, (.gr (.int .i64) 3 x6 true))]⟩
def f103_1_p4_P (x1 : LL) (x2 x3 : Nat) (x4 : LI) (x5 : Int) (x6 : LI) (x11 : Int) (r : f103_1_p4_R) : Prop := Lp cx f103_1_M 64 (part Try.f103 4) (f103_1_p4_H x1 x2 x3 x4 x5 x6 x11) (f103_1_p4_x r) (f103_1_p4_s x1 x2 x3 x4 x5 x6 r)
def f103_1_v : f103_1_R → G := fun
 | .c0 => (.r (.at .nils))
 | .c1 y0 => (GL y0)
def f103_1_k0 : f103_1_R → List (Nat × Blk) := fun
 | .c0 => []
 | .c1 y0 => []
def f103_1_k (x1 : LL) (x2 x3 : Nat) (x4 : LI) (x5 : Int) (x6 : LI) : f103_1_R → List (Nat × Blk) := fun
 | .c0 => [(144, (.gr (.int .i64) 3 x6 true))]
 | .c1 y0 => [(144, (.gr (.int .i64) 3 x6 true))]
def f103_1_A (x1 : LL) (x2 x3 : Nat) (x4 : LI) (x5 : Int) (x6 : LI) : List G := [(.r (.at (.lst (.list (.int .i64)) x1 false))), (.r (.at (.sl 144 x2 x3))), (GL x4), (GI x5)]
def f103_1_K (x1 : LL) (x2 x3 : Nat) (x4 : LI) (x5 : Int) (x6 : LI) : List (Nat × Blk) := [(144, (.gr (.int .i64) 3 x6 true))]
def f103_1_C (x1 : LL) (x2 x3 : Nat) (x4 : LI) (x5 : Int) (x6 : LI) (r : f103_1_R) : Prop := CallOK cx 103 (f103_1_A x1 x2 x3 x4 x5 x6) (f103_1_K x1 x2 x3 x4 x5 x6) [] (f103_1_v r) (f103_1_k x1 x2 x3 x4 x5 x6 r)

def f87_1_M : List Nat := []
def f87_1_p1_H (x1 : LL) (x2 x3 : Nat) (x4 : LI) (x5 : Int) : GS := ⟨[(0, (.r (.at (.lst (.list (.int .i64)) x1 false)))), (1, (.r (.at (.sl 144 x2 x3)))), (5, (GI x5))], [(144, (.gr (.int .i64) 3 x4 true))]⟩
def f87_1_p1_x : f87_1_p1_R → GExit := fun
 | .c0 y0 => .ret
 | .c1 => (.exit 0)
def f87_1_p1_s (x1 : LL) (x2 x3 : Nat) (x4 : LI) : f87_1_p1_R → GS := fun
 | .c0 y0 => ⟨[(4, (GL y0))], [(144, (.gr (.int .i64) 3 x4 true))]⟩
 | .c1 => ⟨[], [(144, (.gr (.int .i64) 3 x4 true))]⟩
def f87_1_p1_P (x1 : LL) (x2 x3 : Nat) (x4 : LI) (x5 : Int) (r : f87_1_p1_R) : Prop := Lp cx f87_1_M 25 (part Try.f87 1) (f87_1_p1_H x1 x2 x3 x4 x5) (f87_1_p1_x r) (f87_1_p1_s x1 x2 x3 x4 r)
def f87_1_v : f87_1_R → G := fun
 | .c0 y0 => (GL y0)
 | .c1 => (.r (.at .nils))
def f87_1_k0 : f87_1_R → List (Nat × Blk) := fun
 | .c0 y0 => []
 | .c1 => []
def f87_1_k (x1 : LL) (x2 x3 : Nat) (x4 : LI) : f87_1_R → List (Nat × Blk) := fun
 | .c0 y0 => [(144, (.gr (.int .i64) 3 x4 true))]
 | .c1 => [(144, (.gr (.int .i64) 3 x4 true))]
def f87_1_A (x1 : LL) (x2 x3 : Nat) (x4 : LI) : List G := [(.r (.at (.lst (.list (.int .i64)) x1 false))), (.r (.at (.sl 144 x2 x3)))]
def f87_1_K (x1 : LL) (x2 x3 : Nat) (x4 : LI) : List (Nat × Blk) := [(144, (.gr (.int .i64) 3 x4 true))]
def f87_1_C (x1 : LL) (x2 x3 : Nat) (x4 : LI) (r : f87_1_R) : Prop := CallOK cx 87 (f87_1_A x1 x2 x3 x4) (f87_1_K x1 x2 x3 x4) [] (f87_1_v r) (f87_1_k x1 x2 x3 x4 r)

def f90_2_M : List Nat := [149]
def f90_2_p8_3_H (x1 : LL) (x2 x3 : Nat) (x4 : Option (List Int)) (x31 : LI) (x30 x33 : Int) (x37 : Bool) (x5 : LI) : GS := ⟨[(0, (.r (.at (.lst (.list (.int .i64)) x1 false)))), (1, (.r (.at (.sl 144 x2 x3)))), (2, (.r (.at (.olst (.int .i64) x4)))), (8, (.r (.at (.sl 149 0 (List.length x31))))), (9, (.r (.at (.bool true)))), (10, (GI x30)), (11, (GI x33)), (45, (.r (.at (.bool (!x37)))))], [(144, (.gr (.int .i64) 3 x5 true)), (149, (.gr (.int .i64) 3 x31 true))]⟩
def f90_2_p8_3_x : (List Int) → GExit := fun y0 => .normal
def f90_2_p8_3_s (x1 : LL) (x2 x3 : Nat) (x4 : Option (List Int)) (x31 : LI) (x30 x33 : Int) (x37 : Bool) (x5 : LI) : (List Int) → GS := fun y0 => ⟨[(0, (.r (.at (.lst (.list (.int .i64)) x1 false)))), (1, (.r (.at (.sl 144 x2 x3)))), (2, (.r (.at (.olst (.int .i64) x4)))), (8, (.r (.at (.sl 149 0 (List.length y0))))), (9, (.r (.at (.bool true)))), (10, (GI x30)), (11, (GI x33))], [(144, (.gr (.int .i64) 3 x5 true)), (149, (.gr (.int .i64) 3 y0 true))]⟩
def f90_2_p8_3_P (x1 : LL) (x2 x3 : Nat) (x4 : Option (List Int)) (x31 : LI) (x30 x33 : Int) (x37 : Bool) (x5 : LI) (r : (List Int)) : Prop := Ex cx f90_2_M 52 (part Try.f90 8) (f90_2_p8_3_H x1 x2 x3 x4 x31 x30 x33 x37 x5) (f90_2_p8_3_x r) (f90_2_p8_3_s x1 x2 x3 x4 x31 x30 x33 x37 x5 r)
def f90_2_p8_4_H (x1 : LL) (x2 x3 : Nat) (x4 : Option (List Int)) (x31 : LI) (x39 : Bool) (x30 x33 : Int) (x41 : Bool) (x5 : LI) : GS := ⟨[(0, (.r (.at (.lst (.list (.int .i64)) x1 false)))), (1, (.r (.at (.sl 144 x2 x3)))), (2, (.r (.at (.olst (.int .i64) x4)))), (8, (.r (.at (.sl 149 0 (List.length x31))))), (9, (GB x39)), (10, (GI x30)), (11, (GI x33)), (45, (.r (.at (.bool (!x41)))))], [(144, (.gr (.int .i64) 3 x5 true)), (149, (.gr (.int .i64) 3 x31 true))]⟩
def f90_2_p8_4_x : (List Int) → GExit := fun y0 => .normal
def f90_2_p8_4_s (x1 : LL) (x2 x3 : Nat) (x4 : Option (List Int)) (x31 : LI) (x39 : Bool) (x30 x33 : Int) (x41 : Bool) (x5 : LI) : (List Int) → GS := fun y0 => ⟨[(0, (.r (.at (.lst (.list (.int .i64)) x1 false)))), (1, (.r (.at (.sl 144 x2 x3)))), (2, (.r (.at (.olst (.int .i64) x4)))), (8, (.r (.at (.sl 149 0 (List.length y0))))), (9, (GB x39)), (10, (GI x30)), (11, (GI x33))], [(144, (.gr (.int .i64) 3 x5 true)), (149, (.gr (.int .i64) 3 y0 true))]⟩
def f90_2_p8_4_P (x1 : LL) (x2 x3 : Nat) (x4 : Option (List Int)) (x31 : LI) (x39 : Bool) (x30 x33 : Int) (x41 : Bool) (x5 : LI) (r : (List Int)) : Prop := Ex cx f90_2_M 52 (part Try.f90 8) (f90_2_p8_4_H x1 x2 x3 x4 x31 x39 x30 x33 x41 x5) (f90_2_p8_4_x r) (f90_2_p8_4_s x1 x2 x3 x4 x31 x39 x30 x33 x41 x5 r)
def f90_2_p5_1_H (x1 : LL) (x2 x3 : Nat) (x4 : Option (List Int)) (x30 : Int) (x5 : LI) (x32 : Bool) (x33 : Int) (x31 : LI) : GS := ⟨[(0, (.r (.at (.lst (.list (.int .i64)) x1 false)))), (1, (.r (.at (.sl 144 x2 x3)))), (2, (.r (.at (.olst (.int .i64) x4)))), (8, (.r (.at (.sl 149 0 (List.length x31))))), (9, (GB x32)), (10, (GI x30)), (11, (GI x33))], [(144, (.gr (.int .i64) 3 x5 true)), (149, (.gr (.int .i64) 3 x31 true))]⟩
def f90_2_p5_1_x : (Bool × (List Int)) → GExit := fun (y0, y1) => (.exit 2)
def f90_2_p5_1_s (x1 : LL) (x2 x3 : Nat) (x4 : Option (List Int)) (x30 : Int) (x5 : LI) : (Bool × (List Int)) → GS := fun (y0, y1) => ⟨[(0, (.r (.at (.lst (.list (.int .i64)) x1 false)))), (1, (.r (.at (.sl 144 x2 x3)))), (2, (.r (.at (.olst (.int .i64) x4)))), (8, (.r (.at (.sl 149 0 (List.length y1))))), (9, (GB y0)), (10, (GI x30))], [(144, (.gr (.int .i64) 3 x5 true)), (149, (.gr (.int .i64) 3 y1 true))]⟩
def f90_2_p5_1_P (x1 : LL) (x2 x3 : Nat) (x4 : Option (List Int)) (x30 : Int) (x5 : LI) (x32 : Bool) (x33 : Int) (x31 : LI) (r : Bool × (List Int)) : Prop := Lp cx f90_2_M 52 (part Try.f90 5) (f90_2_p5_1_H x1 x2 x3 x4 x30 x5 x32 x33 x31) (f90_2_p5_1_x r) (f90_2_p5_1_s x1 x2 x3 x4 x30 x5 r)
def f90_2_p1_H (x1 : LL) (x2 x3 : Nat) (x4 : Option (List Int)) (x5 : LI) (x29 : Bool) (x30 : Int) (x28 : LI) : GS := ⟨[(0, (.r (.at (.lst (.list (.int .i64)) x1 false)))), (1, (.r (.at (.sl 144 x2 x3)))), (2, (.r (.at (.olst (.int .i64) x4)))), (8, (.r (.at (.sl 149 0 (List.length x28))))), (9, (GB x29)), (10, (GI x30))], [(144, (.gr (.int .i64) 3 x5 true)), (149, (.gr (.int .i64) 3 x28 true))]⟩
def f90_2_p1_x : (Bool × (List Int)) → GExit := fun (y0, y1) => (.exit 0)
def f90_2_p1_s (x1 : LL) (x2 x3 : Nat) (x4 : Option (List Int)) (x5 : LI) : (Bool × (List Int)) → GS := fun (y0, y1) => ⟨[(8, (.r (.at (.sl 149 0 (List.length y1))))), (9, (GB y0))], [(144, (.gr (.int .i64) 3 x5 true)), (149, (.gr (.int .i64) 3 y1 true))]⟩
def f90_2_p1_P (x1 : LL) (x2 x3 : Nat) (x4 : Option (List Int)) (x5 : LI) (x29 : Bool) (x30 : Int) (x28 : LI) (r : Bool × (List Int)) : Prop := Lp cx f90_2_M 52 (part Try.f90 1) (f90_2_p1_H x1 x2 x3 x4 x5 x29 x30 x28) (f90_2_p1_x r) (f90_2_p1_s x1 x2 x3 x4 x5 r)
def f90_2_v : ((List Int) × Bool) → G := fun (y0, y1) => (.tup [(.at (.lst (.int .i64) y0 false)), (.at (.bool y1))])
def f90_2_k0 : ((List Int) × Bool) → List (Nat × Blk) := fun (y0, y1) => []
def f90_2_k (x1 : LL) (x2 x3 : Nat) (x4 : Option (List Int)) (x5 : LI) : ((List Int) × Bool) → List (Nat × Blk) := fun (y0, y1) => [(144, (.gr (.int .i64) 3 x5 true))]
def f90_2_A (x1 : LL) (x2 x3 : Nat) (x4 : Option (List Int)) (x5 : LI) : List G := [(.r (.at (.lst (.list (.int .i64)) x1 false))), (.r (.at (.sl 144 x2 x3))), (.r (.at (.olst (.int .i64) x4)))]
def f90_2_K (x1 : LL) (x2 x3 : Nat) (x4 : Option (List Int)) (x5 : LI) : List (Nat × Blk) := [(144, (.gr (.int .i64) 3 x5 true))]
def f90_2_C (x1 : LL) (x2 x3 : Nat) (x4 : Option (List Int)) (x5 : LI) (r : (List Int) × Bool) : Prop := CallOK cx 90 (f90_2_A x1 x2 x3 x4 x5) (f90_2_K x1 x2 x3 x4 x5) [] (f90_2_v r) (f90_2_k x1 x2 x3 x4 x5 r)

def f40_M : List Nat := [144]
def f40_p6_1_H (x1 : LL) (x3 : LI) (x19 : LI) (x25 : Int) (x24 : LI) : GS := ⟨[(0, (.r (.at (.lst (.list (.int .i64)) x1 false)))), (5, (.r (.at (.sl 144 0 (Int.toNat (LN x3)))))), (7, (GL x19)), (9, (GI x25))], [(144, (.gr (.int .i64) 3 x24 true))]⟩
def f40_p6_1_x : (List Int) → GExit := fun y0 => (.exit 2)
def f40_p6_1_s (x1 : LL) (x3 : LI) (x19 : LI) : (List Int) → GS := fun y0 => ⟨[(0, (.r (.at (.lst (.list (.int .i64)) x1 false)))), (5, (.r (.at (.sl 144 0 (Int.toNat (LN x3))))))], [(144, (.gr (.int .i64) 3 y0 true))]⟩
def f40_p6_1_P (x1 : LL) (x3 : LI) (x19 : LI) (x25 : Int) (x24 : LI) (r : (List Int)) : Prop := Lp cx f40_M 51 (part Try.f40 6) (f40_p6_1_H x1 x3 x19 x25 x24) (f40_p6_1_x r) (f40_p6_1_s x1 x3 x19 r)
def f40_p2_H (x1 : LL) (x3 : LI) (x18 : Option (List Int)) (x17 : LI) : GS := ⟨[(0, (.r (.at (.lst (.list (.int .i64)) x1 false)))), (5, (.r (.at (.sl 144 0 (Int.toNat (LN x3)))))), (6, (.r (.at (.olst (.int .i64) x18))))], [(144, (.gr (.int .i64) 3 x17 true))]⟩
def f40_p2_x : (List Int) → GExit := fun y0 => (.exit 0)
def f40_p2_s (x1 : LL) (x3 : LI) : (List Int) → GS := fun y0 => ⟨[(5, (.r (.at (.sl 144 0 (Int.toNat (LN x3))))))], [(144, (.gr (.int .i64) 3 y0 true))]⟩
def f40_p2_P (x1 : LL) (x3 : LI) (x18 : Option (List Int)) (x17 : LI) (r : (List Int)) : Prop := Lp cx f40_M 51 (part Try.f40 2) (f40_p2_H x1 x3 x18 x17) (f40_p2_x r) (f40_p2_s x1 x3 r)
def f40_p6_3_H (x1 : LL) (x3 : LI) (x45 : LI) (x51 : Int) (x50 : LI) : GS := ⟨[(0, (.r (.at (.lst (.list (.int .i64)) x1 false)))), (5, (.r (.at (.sl 144 0 (Int.toNat (LN x3)))))), (7, (GL x45)), (9, (GI x51))], [(144, (.gr (.int .i64) 3 x50 true))]⟩
def f40_p6_3_x : (List Int) → GExit := fun y0 => (.exit 2)
def f40_p6_3_s (x1 : LL) (x3 : LI) (x45 : LI) : (List Int) → GS := fun y0 => ⟨[(0, (.r (.at (.lst (.list (.int .i64)) x1 false)))), (5, (.r (.at (.sl 144 0 (Int.toNat (LN x3))))))], [(144, (.gr (.int .i64) 3 y0 true))]⟩
def f40_p6_3_P (x1 : LL) (x3 : LI) (x45 : LI) (x51 : Int) (x50 : LI) (r : (List Int)) : Prop := Lp cx f40_M 51 (part Try.f40 6) (f40_p6_3_H x1 x3 x45 x51 x50) (f40_p6_3_x r) (f40_p6_3_s x1 x3 x45 r)
def f40_p2_1_H (x1 : LL) (x3 : LI) (x44 : Option (List Int)) (x43 : LI) : GS := ⟨[(0, (.r (.at (.lst (.list (.int .i64)) x1 false)))), (5, (.r (.at (.sl 144 0 (Int.toNat (LN x3)))))), (6, (.r (.at (.olst (.int .i64) x44))))], [(144, (.gr (.int .i64) 3 x43 true))]⟩
def f40_p2_1_x : (List Int) → GExit := fun y0 => (.exit 0)
def f40_p2_1_s (x1 : LL) (x3 : LI) : (List Int) → GS := fun y0 => ⟨[(5, (.r (.at (.sl 144 0 (Int.toNat (LN x3))))))], [(144, (.gr (.int .i64) 3 y0 true))]⟩
def f40_p2_1_P (x1 : LL) (x3 : LI) (x44 : Option (List Int)) (x43 : LI) (r : (List Int)) : Prop := Lp cx f40_M 51 (part Try.f40 2) (f40_p2_1_H x1 x3 x44 x43) (f40_p2_1_x r) (f40_p2_1_s x1 x3 r)
def f40_v : ((List Int) × Int) → G := fun (y0, y1) => (.tup [(.at (.lst (.int .i64) y0 false)), (.at (.int .i64 y1))])
def f40_k0 : ((List Int) × Int) → List (Nat × Blk) := fun (y0, y1) => []
def f40_k (x1 : LL) : ((List Int) × Int) → List (Nat × Blk) := fun (y0, y1) => []
def f40_A (x1 : LL) : List G := [(.r (.at (.lst (.list (.int .i64)) x1 false)))]
def f40_K (x1 : LL) : List (Nat × Blk) := []
def f40_C (x1 : LL) (r : (List Int) × Int) : Prop := CallOK cx 40 (f40_A x1) (f40_K x1) [] (f40_v r) (f40_k x1 r)

def f42_M : List Nat := [150]
def f42_p2_H (x1 : LL) (x5 x12 : Int) (x11 : LI) : GS := ⟨[(0, (.r (.at (.lst (.list (.int .i64)) x1 false)))), (7, (GI x5)), (8, (.r (.at (.sl 150 0 (List.length x11))))), (9, (GI x12))], [(150, (.gr (.int .i64) 3 x11 true))]⟩
def f42_p2_x : (List Int) → GExit := fun y0 => (.exit 0)
def f42_p2_s (x1 : LL) (x5 : Int) : (List Int) → GS := fun y0 => ⟨[(8, (.r (.at (.sl 150 0 (List.length y0)))))], [(150, (.gr (.int .i64) 3 y0 true))]⟩
def f42_p2_P (x1 : LL) (x5 x12 : Int) (x11 : LI) (r : (List Int)) : Prop := Lp cx f42_M 46 (part Try.f42 2) (f42_p2_H x1 x5 x12 x11) (f42_p2_x r) (f42_p2_s x1 x5 r)
def f42_v : ((List Int) × Int) → G := fun (y0, y1) => (.tup [(.at (.lst (.int .i64) y0 false)), (.at (.int .i64 y1))])
def f42_k0 : ((List Int) × Int) → List (Nat × Blk) := fun (y0, y1) => []
def f42_k (x1 : LL) : ((List Int) × Int) → List (Nat × Blk) := fun (y0, y1) => []
def f42_A (x1 : LL) : List G := [(.r (.at (.lst (.list (.int .i64)) x1 false)))]
def f42_K (x1 : LL) : List (Nat × Blk) := []
def f42_C (x1 : LL) (r : (List Int) × Int) : Prop := CallOK cx 42 (f42_A x1) (f42_K x1) [] (f42_v r) (f42_k x1 r)

def f6_M : List Nat := []
def f6_v : Bool → G := fun y0 => (GB y0)
def f6_k0 : Bool → List (Nat × Blk) := fun y0 => []
def f6_k (x1 : LL) : Bool → List (Nat × Blk) := fun y0 => []
def f6_A (x1 : LL) : List G := [(.r (.at (.lst (.list (.int .i64)) x1 false)))]
def f6_K (x1 : LL) : List (Nat × Blk) := []
def f6_C (x1 : LL) (r : Bool) : Prop := CallOK cx 6 (f6_A x1) (f6_K x1) [] (f6_v r) (f6_k x1 r)

end
end Go.Gh.Sale
