/- Bunch13D0: printed by wip/tool/gx.py -/
import Derived.Test.YtegnegeoodkpcaaBunchA
import Derived.Test.YtegnegeoodkpcaaGiC
import Derived.Test.YtegnegeoodkpcaaBunch13N0
namespace Go.Gh.Bunch
set_option linter.unusedVariables false
set_option linter.unusedSimpArgs false
open Go.Proofs
abbrev oL (l : List Nat) : En := .co (.live l)
abbrev oK (l : List Nat) : En := .co (.keep l)
abbrev oV (n : Int) : En := .v (.ipt (.int .i64) n)
abbrev oP (e : GExit) (s : GS) : En := .lp e s.env s.hp

def f106_M : List Nat := []
noncomputable def f106_p0_H (x1 : Int) : GS := ⟨[(0, (.r (.at (.int .u64 x1)))), (2, (.r (.at (.int .i64 0)))), (4, (.r (.at (.bool (decide (x1 ≥ 4294967296))))))], []⟩
noncomputable def f106_p0_x : (Int × Int) → GExit := fun (y0, y1) => .normal
noncomputable def f106_p0_s (x1 : Int) : (Int × Int) → GS := fun (y0, y1) => ⟨[(0, (.r (.at (.int .u64 y0)))), (2, (GI y1))], []⟩
def f106_p0_P (x1 : Int) (r : Int × Int) : Prop := Ex cx f106_M 25 (part Try.f106 0) (f106_p0_H x1) (f106_p0_x r) (f106_p0_s x1 r)
noncomputable def f106_p1_H (x2 x3 : Int) : GS := ⟨[(0, (.r (.at (.int .u64 x2)))), (2, (GI x3)), (8, (.r (.at (.bool (decide (x2 ≥ 65536))))))], []⟩
noncomputable def f106_p1_x : (Int × Int) → GExit := fun (y0, y1) => .normal
noncomputable def f106_p1_s (x2 x3 : Int) : (Int × Int) → GS := fun (y0, y1) => ⟨[(0, (.r (.at (.int .u64 y0)))), (2, (GI y1))], []⟩
def f106_p1_P (x2 x3 : Int) (r : Int × Int) : Prop := Ex cx f106_M 25 (part Try.f106 1) (f106_p1_H x2 x3) (f106_p1_x r) (f106_p1_s x2 x3 r)
noncomputable def f106_p2_H (x4 x5 : Int) : GS := ⟨[(0, (.r (.at (.int .u64 x4)))), (2, (GI x5)), (14, (.r (.at (.bool (decide (x4 ≥ 256))))))], []⟩
noncomputable def f106_p2_x : (Int × Int) → GExit := fun (y0, y1) => .normal
noncomputable def f106_p2_s (x4 x5 : Int) : (Int × Int) → GS := fun (y0, y1) => ⟨[(0, (.r (.at (.int .u64 y0)))), (2, (GI y1))], []⟩
def f106_p2_P (x4 x5 : Int) (r : Int × Int) : Prop := Ex cx f106_M 25 (part Try.f106 2) (f106_p2_H x4 x5) (f106_p2_x r) (f106_p2_s x4 x5 r)
noncomputable def f106_v : Int → G := fun y0 => (GI y0)
noncomputable def f106_k0 : Int → List (Nat × Blk) := fun y0 => []
noncomputable def f106_k (x1 : Int) : Int → List (Nat × Blk) := fun y0 => []
noncomputable def f106_A (x1 : Int) : List G := [(.r (.at (.int .u64 x1)))]
noncomputable def f106_K (x1 : Int) : List (Nat × Blk) := []
def f106_C (x1 : Int) (r : Int) : Prop := CallOK cx 106 (f106_A x1) (f106_K x1) [] (f106_v r) (f106_k x1 r)

def f92_M : List Nat := []
noncomputable def f92_v : Int → G := fun y0 => (GI y0)
noncomputable def f92_k0 : Int → List (Nat × Blk) := fun y0 => []
noncomputable def f92_k (x1 : Int) : Int → List (Nat × Blk) := fun y0 => []
noncomputable def f92_A (x1 : Int) : List G := [(.r (.at (.int .u64 x1)))]
noncomputable def f92_K (x1 : Int) : List (Nat × Blk) := []
def f92_C (x1 : Int) (r : Int) : Prop := CallOK cx 92 (f92_A x1) (f92_K x1) [] (f92_v r) (f92_k x1 r)

def f120_M : List Nat := []
noncomputable def f120_v : Bool → G := fun y0 => (GB y0)
noncomputable def f120_k0 : Bool → List (Nat × Blk) := fun y0 => []
noncomputable def f120_k (x1 : Int) : Bool → List (Nat × Blk) := fun y0 => []
noncomputable def f120_A (x1 : Int) : List G := [(GI x1)]
noncomputable def f120_K (x1 : Int) : List (Nat × Blk) := []
def f120_C (x1 : Int) (r : Bool) : Prop := CallOK cx 120 (f120_A x1) (f120_K x1) [] (f120_v r) (f120_k x1 r)

def f102_M : List Nat := []
noncomputable def f102_v : Bool → G := fun y0 => (GB y0)
noncomputable def f102_k0 : Bool → List (Nat × Blk) := fun y0 => []
noncomputable def f102_k (x1 x2 : Int) : Bool → List (Nat × Blk) := fun y0 => []
noncomputable def f102_A (x1 x2 : Int) : List G := [(GI x1), (GI x2)]
noncomputable def f102_K (x1 x2 : Int) : List (Nat × Blk) := []
def f102_C (x1 x2 : Int) (r : Bool) : Prop := CallOK cx 102 (f102_A x1 x2) (f102_K x1 x2) [] (f102_v r) (f102_k x1 x2 r)

def f96_M : List Nat := []
noncomputable def f96_p5_1_H (x1 x2 : Nat) (x3 x4 : Int) (x18 x24 : Int) (x23 : List Int) : GS := ⟨[(0, (.r (.at (.sl 1 x1 x2)))), (1, (GI x3)), (2, (GI x4)), (6, (GI x18)), (7, (GI x24))], [(1, (.gr (.int .i64) 3 x23 true))]⟩
noncomputable def f96_p5_1_x : (List Int) → GExit := fun y0 => (.exit 2)
noncomputable def f96_p5_1_s (x1 x2 : Nat) (x3 x4 x18 : Int) : (List Int) → GS := fun y0 => ⟨[(0, (.r (.at (.sl 1 x1 x2)))), (1, (GI x3)), (2, (GI x4)), (6, (GI x18))], [(1, (.gr (.int .i64) 3 y0 true))]⟩
def f96_p5_1_P (x1 x2 : Nat) (x3 x4 : Int) (x18 x24 : Int) (x23 : List Int) (r : (List Int)) : Prop := Lp cx f96_M 49 (part Try.f96 5) (f96_p5_1_H x1 x2 x3 x4 x18 x24 x23) (f96_p5_1_x r) (f96_p5_1_s x1 x2 x3 x4 x18 r)
noncomputable def f96_p1_H (x1 x2 : Nat) (x3 x4 x18 : Int) (x17 : List Int) : GS := ⟨[(0, (.r (.at (.sl 1 x1 x2)))), (1, (GI x3)), (2, (GI x4)), (6, (GI x18))], [(1, (.gr (.int .i64) 3 x17 true))]⟩
noncomputable def f96_p1_x : (List Int) → GExit := fun y0 => (.exit 0)
noncomputable def f96_p1_s (x1 x2 : Nat) (x3 x4 : Int) : (List Int) → GS := fun y0 => ⟨[], [(1, (.gr (.int .i64) 3 y0 true))]⟩
def f96_p1_P (x1 x2 : Nat) (x3 x4 x18 : Int) (x17 : List Int) (r : (List Int)) : Prop := Lp cx f96_M 49 (part Try.f96 1) (f96_p1_H x1 x2 x3 x4 x18 x17) (f96_p1_x r) (f96_p1_s x1 x2 x3 x4 r)
noncomputable def f96_v : (List Int) → G := fun y0 => (.r (.at .unit0))
noncomputable def f96_k0 : (List Int) → List (Nat × Blk) := fun y0 => [(1, (.gr (.int .i64) 3 y0 true))]
noncomputable def f96_k (x1 x2 : Nat) (x3 x4 : Int) (x5 : List Int) : (List Int) → List (Nat × Blk) := fun y0 => [(1, (.gr (.int .i64) 3 y0 true))]
noncomputable def f96_A (x1 x2 : Nat) (x3 x4 : Int) (x5 : List Int) : List G := [(.r (.at (.sl 1 x1 x2))), (GI x3), (GI x4)]
noncomputable def f96_K (x1 x2 : Nat) (x3 x4 : Int) (x5 : List Int) : List (Nat × Blk) := [(1, (.gr (.int .i64) 3 x5 true))]
def f96_C (x1 x2 : Nat) (x3 x4 : Int) (x5 : List Int) (r : (List Int)) : Prop := CallOK cx 96 (f96_A x1 x2 x3 x4 x5) (f96_K x1 x2 x3 x4 x5) [] (f96_v r) (f96_k x1 x2 x3 x4 x5 r)

def f115_M : List Nat := []
noncomputable def f115_p4_1_H (x1 x2 : Nat) (x4 x5 x16 : Int) (x19 : Bool) (x15 : List Int) : GS := ⟨[(0, (.r (.at (.sl 1 x1 x2)))), (2, (GI x4)), (3, (GI x5)), (8, (GI x16)), (9, (.r (.at (.int .i64 (w64 ((w64 (2 * x16)) + 1)))))), (36, (GB x19))], [(1, (.gr (.int .i64) 3 x15 true))]⟩
noncomputable def f115_p4_1_x : Int → GExit := fun y0 => .normal
noncomputable def f115_p4_1_s (x1 x2 : Nat) (x4 x5 x16 : Int) (x19 : Bool) (x15 : List Int) : Int → GS := fun y0 => ⟨[(0, (.r (.at (.sl 1 x1 x2)))), (2, (GI x4)), (3, (GI x5)), (8, (GI x16)), (9, (GI y0))], [(1, (.gr (.int .i64) 3 x15 true))]⟩
def f115_p4_1_P (x1 x2 : Nat) (x4 x5 x16 : Int) (x19 : Bool) (x15 : List Int) (r : Int) : Prop := Ex cx f115_M 76 (part Try.f115 4) (f115_p4_1_H x1 x2 x4 x5 x16 x19 x15) (f115_p4_1_x r) (f115_p4_1_s x1 x2 x4 x5 x16 x19 x15 r)
noncomputable def f115_p1_H (x1 x2 : Nat) (x4 x5 x16 : Int) (x15 : List Int) : GS := ⟨[(0, (.r (.at (.sl 1 x1 x2)))), (2, (GI x4)), (3, (GI x5)), (8, (GI x16))], [(1, (.gr (.int .i64) 3 x15 true))]⟩
noncomputable def f115_p1_x : f115_p1_R → GExit := fun
  | .c0 y0 => (.exit 0)
  | .c1 y0 => .ret
noncomputable def f115_p1_s (x1 x2 : Nat) (x4 x5 : Int) : f115_p1_R → GS := fun
  | .c0 y0 => ⟨[], [(1, (.gr (.int .i64) 3 y0 true))]⟩
  | .c1 y0 => ⟨[], [(1, (.gr (.int .i64) 3 y0 true))]⟩
def f115_p1_P (x1 x2 : Nat) (x4 x5 x16 : Int) (x15 : List Int) (r : f115_p1_R) : Prop := Lp cx f115_M 76 (part Try.f115 1) (f115_p1_H x1 x2 x4 x5 x16 x15) (f115_p1_x r) (f115_p1_s x1 x2 x4 x5 r)
noncomputable def f115_v : (List Int) → G := fun y0 => (.r (.at .unit0))
noncomputable def f115_k0 : (List Int) → List (Nat × Blk) := fun y0 => [(1, (.gr (.int .i64) 3 y0 true))]
noncomputable def f115_k (x1 x2 : Nat) (x3 x4 x5 : Int) (x6 : List Int) : (List Int) → List (Nat × Blk) := fun y0 => [(1, (.gr (.int .i64) 3 y0 true))]
noncomputable def f115_A (x1 x2 : Nat) (x3 x4 x5 : Int) (x6 : List Int) : List G := [(.r (.at (.sl 1 x1 x2))), (GI x3), (GI x4), (GI x5)]
noncomputable def f115_K (x1 x2 : Nat) (x3 x4 x5 : Int) (x6 : List Int) : List (Nat × Blk) := [(1, (.gr (.int .i64) 3 x6 true))]
def f115_C (x1 x2 : Nat) (x3 x4 x5 : Int) (x6 : List Int) (r : (List Int)) : Prop := CallOK cx 115 (f115_A x1 x2 x3 x4 x5 x6) (f115_K x1 x2 x3 x4 x5 x6) [] (f115_v r) (f115_k x1 x2 x3 x4 x5 x6 r)

def f97_M : List Nat := []
noncomputable def f97_p1_H (x1 x2 : Nat) (x3 x4 x9 : Int) (x8 : List Int) : GS := ⟨[(0, (.r (.at (.sl 1 x1 x2)))), (6, (GI x3)), (7, (.r (.at (.int .i64 0)))), (8, (.r (.at (.int .i64 (w64 (x4 - x3)))))), (9, (GI x9))], [(1, (.gr (.int .i64) 3 x8 true))]⟩
noncomputable def f97_p1_x : (List Int) → GExit := fun y0 => (.exit 0)
noncomputable def f97_p1_s (x1 x2 : Nat) (x3 x4 : Int) : (List Int) → GS := fun y0 => ⟨[(0, (.r (.at (.sl 1 x1 x2)))), (6, (GI x3)), (7, (.r (.at (.int .i64 0)))), (8, (.r (.at (.int .i64 (w64 (x4 - x3))))))], [(1, (.gr (.int .i64) 3 y0 true))]⟩
def f97_p1_P (x1 x2 : Nat) (x3 x4 x9 : Int) (x8 : List Int) (r : (List Int)) : Prop := Lp cx f97_M 56 (part Try.f97 1) (f97_p1_H x1 x2 x3 x4 x9 x8) (f97_p1_x r) (f97_p1_s x1 x2 x3 x4 r)
noncomputable def f97_p5_H (x1 x2 : Nat) (x3 x17 : Int) (x16 : List Int) : GS := ⟨[(0, (.r (.at (.sl 1 x1 x2)))), (6, (GI x3)), (7, (.r (.at (.int .i64 0)))), (10, (GI x17))], [(1, (.gr (.int .i64) 3 x16 true))]⟩
noncomputable def f97_p5_x : (List Int) → GExit := fun y0 => (.exit 2)
noncomputable def f97_p5_s (x1 x2 : Nat) (x3 : Int) : (List Int) → GS := fun y0 => ⟨[], [(1, (.gr (.int .i64) 3 y0 true))]⟩
def f97_p5_P (x1 x2 : Nat) (x3 x17 : Int) (x16 : List Int) (r : (List Int)) : Prop := Lp cx f97_M 56 (part Try.f97 5) (f97_p5_H x1 x2 x3 x17 x16) (f97_p5_x r) (f97_p5_s x1 x2 x3 r)
noncomputable def f97_v : (List Int) → G := fun y0 => (.r (.at .unit0))
noncomputable def f97_k0 : (List Int) → List (Nat × Blk) := fun y0 => [(1, (.gr (.int .i64) 3 y0 true))]
noncomputable def f97_k (x1 x2 : Nat) (x3 x4 : Int) (x5 : List Int) : (List Int) → List (Nat × Blk) := fun y0 => [(1, (.gr (.int .i64) 3 y0 true))]
noncomputable def f97_A (x1 x2 : Nat) (x3 x4 : Int) (x5 : List Int) : List G := [(.r (.at (.sl 1 x1 x2))), (GI x3), (GI x4)]
noncomputable def f97_K (x1 x2 : Nat) (x3 x4 : Int) (x5 : List Int) : List (Nat × Blk) := [(1, (.gr (.int .i64) 3 x5 true))]
def f97_C (x1 x2 : Nat) (x3 x4 : Int) (x5 : List Int) (r : (List Int)) : Prop := CallOK cx 97 (f97_A x1 x2 x3 x4 x5) (f97_K x1 x2 x3 x4 x5) [] (f97_v r) (f97_k x1 x2 x3 x4 x5 r)

def f116_M : List Nat := []
noncomputable def f116_v : Int → G := fun y0 => (.r (.at (.int .u64 y0)))
noncomputable def f116_k0 : Int → List (Nat × Blk) := fun y0 => []
noncomputable def f116_k (x1 : Int) : Int → List (Nat × Blk) := fun y0 => []
noncomputable def f116_A (x1 : Int) : List G := [(GI x1)]
noncomputable def f116_K (x1 : Int) : List (Nat × Blk) := []
def f116_C (x1 : Int) (r : Int) : Prop := CallOK cx 116 (f116_A x1) (f116_K x1) [] (f116_v r) (f116_k x1 r)

def f117_M : List Nat := []
noncomputable def f117_v : (Int × Int) → G := fun (y0, y1) => (.r (.at (.int .u64 y0)))
noncomputable def f117_k0 : (Int × Int) → List (Nat × Blk) := fun (y0, y1) => [(2, (.var [.cell (.int .u64 y1)]))]
noncomputable def f117_k (x1 : Int) : (Int × Int) → List (Nat × Blk) := fun (y0, y1) => [(2, (.var [.cell (.int .u64 y1)]))]
noncomputable def f117_A (x1 : Int) : List G := [(.r (.at (.ptr 2 0 0)))]
noncomputable def f117_K (x1 : Int) : List (Nat × Blk) := [(2, (.var [.cell (.int .u64 x1)]))]
def f117_C (x1 : Int) (r : Int × Int) : Prop := CallOK cx 117 (f117_A x1) (f117_K x1) [] (f117_v r) (f117_k x1 r)

def f98_M : List Nat := [2]
noncomputable def f98_p5_1_H (x1 x2 : Nat) (x3 x4 : Int) (x6 x14 x16 : Int) (x13 : List Int) (x17 : Int) : GS := ⟨[(0, (.r (.at (.sl 1 x1 x2)))), (1, (GI x3)), (6, (.r (.at (.int .i64 (w64 (x4 - x3)))))), (7, (.r (.at (.ptr 2 0 0)))), (8, (.r (.at (.int .u64 x6)))), (9, (GI x14)), (10, (.r (.at (.int .i64 (w64 ((iAnd .u64 x16 (IntKind.wrap .u64 (x6 - 1))))))))), (43, (.r (.at (.bool (decide ((w64 ((iAnd .u64 x16 (IntKind.wrap .u64 (x6 - 1))))) ≥ (w64 (x4 - x3))))))))], [(1, (.gr (.int .i64) 3 x13 true)), (2, (.var [.cell (.int .u64 x17)]))]⟩
noncomputable def f98_p5_1_x : Int → GExit := fun y0 => .normal
noncomputable def f98_p5_1_s (x1 x2 : Nat) (x3 x4 : Int) (x6 x14 x16 : Int) (x13 : List Int) (x17 : Int) : Int → GS := fun y0 => ⟨[(0, (.r (.at (.sl 1 x1 x2)))), (1, (GI x3)), (6, (.r (.at (.int .i64 (w64 (x4 - x3)))))), (7, (.r (.at (.ptr 2 0 0)))), (8, (.r (.at (.int .u64 x6)))), (9, (GI x14)), (10, (GI y0))], [(1, (.gr (.int .i64) 3 x13 true)), (2, (.var [.cell (.int .u64 x17)]))]⟩
def f98_p5_1_P (x1 x2 : Nat) (x3 x4 : Int) (x6 x14 x16 : Int) (x13 : List Int) (x17 : Int) (r : Int) : Prop := Ex cx f98_M 65 (part Try.f98 5) (f98_p5_1_H x1 x2 x3 x4 x6 x14 x16 x13 x17) (f98_p5_1_x r) (f98_p5_1_s x1 x2 x3 x4 x6 x14 x16 x13 x17 r)
noncomputable def f98_p2_H (x1 x2 : Nat) (x3 x4 : Int) (x6 x14 : Int) (x13 : List Int) (x15 : Int) : GS := ⟨[(0, (.r (.at (.sl 1 x1 x2)))), (1, (GI x3)), (6, (.r (.at (.int .i64 (w64 (x4 - x3)))))), (7, (.r (.at (.ptr 2 0 0)))), (8, (.r (.at (.int .u64 x6)))), (9, (GI x14))], [(1, (.gr (.int .i64) 3 x13 true)), (2, (.var [.cell (.int .u64 x15)]))]⟩
noncomputable def f98_p2_x : (List Int) → GExit := fun y0 => (.exit 0)
noncomputable def f98_p2_s (x1 x2 : Nat) (x3 x4 x6 : Int) : (List Int) → GS := fun y0 => ⟨[], [(1, (.gr (.int .i64) 3 y0 true))]⟩
def f98_p2_P (x1 x2 : Nat) (x3 x4 : Int) (x6 x14 : Int) (x13 : List Int) (x15 : Int) (r : (List Int)) : Prop := Lp cx f98_M 65 (part Try.f98 2) (f98_p2_H x1 x2 x3 x4 x6 x14 x13 x15) (f98_p2_x r) (f98_p2_s x1 x2 x3 x4 x6 r)
noncomputable def f98_p0_H (x1 x2 : Nat) (x3 x4 : Int) (x5 : List Int) : GS := ⟨[(0, (.r (.at (.sl 1 x1 x2)))), (1, (GI x3)), (6, (.r (.at (.int .i64 (w64 (x4 - x3)))))), (15, (.r (.at (.bool (decide ((w64 (x4 - x3)) ≥ 8))))))], [(1, (.gr (.int .i64) 3 x5 true))]⟩
noncomputable def f98_p0_x : (List Int) → GExit := fun y0 => .normal
noncomputable def f98_p0_s (x1 x2 : Nat) (x3 x4 : Int) (x5 : List Int) : (List Int) → GS := fun y0 => ⟨[], [(1, (.gr (.int .i64) 3 y0 true))]⟩
def f98_p0_P (x1 x2 : Nat) (x3 x4 : Int) (x5 : List Int) (r : (List Int)) : Prop := Ex cx f98_M 65 (part Try.f98 0) (f98_p0_H x1 x2 x3 x4 x5) (f98_p0_x r) (f98_p0_s x1 x2 x3 x4 x5 r)
noncomputable def f98_v : (List Int) → G := fun y0 => (.r (.at .unit0))
noncomputable def f98_k0 : (List Int) → List (Nat × Blk) := fun y0 => [(1, (.gr (.int .i64) 3 y0 true))]
noncomputable def f98_k (x1 x2 : Nat) (x3 x4 : Int) (x5 : List Int) : (List Int) → List (Nat × Blk) := fun y0 => [(1, (.gr (.int .i64) 3 y0 true))]
noncomputable def f98_A (x1 x2 : Nat) (x3 x4 : Int) (x5 : List Int) : List G := [(.r (.at (.sl 1 x1 x2))), (GI x3), (GI x4)]
noncomputable def f98_K (x1 x2 : Nat) (x3 x4 : Int) (x5 : List Int) : List (Nat × Blk) := [(1, (.gr (.int .i64) 3 x5 true))]
def f98_C (x1 x2 : Nat) (x3 x4 : Int) (x5 : List Int) (r : (List Int)) : Prop := CallOK cx 98 (f98_A x1 x2 x3 x4 x5) (f98_K x1 x2 x3 x4 x5) [] (f98_v r) (f98_k x1 x2 x3 x4 x5 r)

def f124_M : List Nat := []
noncomputable def f124_v : (Int × Int × Int) → G := fun (y0, y1, y2) => (.tup [(.at (.int .i64 y0)), (.at (.int .i64 y1))])
noncomputable def f124_k0 : (Int × Int × Int) → List (Nat × Blk) := fun (y0, y1, y2) => [(3, (.var [.cell (.int .i64 y2)]))]
noncomputable def f124_k (x1 x2 : Nat) (x3 x4 : Int) (x5 : List Int) (x6 : Int) : (Int × Int × Int) → List (Nat × Blk) := fun (y0, y1, y2) => [(3, (.var [.cell (.int .i64 y2)])), (1, (.gr (.int .i64) 3 x5 true))]
noncomputable def f124_A (x1 x2 : Nat) (x3 x4 : Int) (x5 : List Int) (x6 : Int) : List G := [(.r (.at (.sl 1 x1 x2))), (GI x3), (GI x4), (.r (.at (.ptr 3 0 0)))]
noncomputable def f124_K (x1 x2 : Nat) (x3 x4 : Int) (x5 : List Int) (x6 : Int) : List (Nat × Blk) := [(1, (.gr (.int .i64) 3 x5 true)), (3, (.var [.cell (.int .i64 x6)]))]
def f124_C (x1 x2 : Nat) (x3 x4 : Int) (x5 : List Int) (x6 : Int) (r : Int × Int × Int) : Prop := CallOK cx 124 (f124_A x1 x2 x3 x4 x5 x6) (f124_K x1 x2 x3 x4 x5 x6) [] (f124_v r) (f124_k x1 x2 x3 x4 x5 x6 r)

def f119_M : List Nat := []
noncomputable def f119_v : (Int × Int) → G := fun (y0, y1) => (GI y0)
noncomputable def f119_k0 : (Int × Int) → List (Nat × Blk) := fun (y0, y1) => [(3, (.var [.cell (.int .i64 y1)]))]
noncomputable def f119_k (x1 x2 : Nat) (x3 x4 x5 : Int) (x6 : List Int) (x7 : Int) : (Int × Int) → List (Nat × Blk) := fun (y0, y1) => [(3, (.var [.cell (.int .i64 y1)])), (1, (.gr (.int .i64) 3 x6 true))]
noncomputable def f119_A (x1 x2 : Nat) (x3 x4 x5 : Int) (x6 : List Int) (x7 : Int) : List G := [(.r (.at (.sl 1 x1 x2))), (GI x3), (GI x4), (GI x5), (.r (.at (.ptr 3 0 0)))]
noncomputable def f119_K (x1 x2 : Nat) (x3 x4 x5 : Int) (x6 : List Int) (x7 : Int) : List (Nat × Blk) := [(1, (.gr (.int .i64) 3 x6 true)), (3, (.var [.cell (.int .i64 x7)]))]
def f119_C (x1 x2 : Nat) (x3 x4 x5 : Int) (x6 : List Int) (x7 : Int) (r : Int × Int) : Prop := CallOK cx 119 (f119_A x1 x2 x3 x4 x5 x6 x7) (f119_K x1 x2 x3 x4 x5 x6 x7) [] (f119_v r) (f119_k x1 x2 x3 x4 x5 x6 x7 r)

def f118_M : List Nat := []
noncomputable def f118_v : (Int × Int) → G := fun (y0, y1) => (GI y0)
noncomputable def f118_k0 : (Int × Int) → List (Nat × Blk) := fun (y0, y1) => [(3, (.var [.cell (.int .i64 y1)]))]
noncomputable def f118_k (x1 x2 : Nat) (x3 : Int) (x4 : List Int) (x5 : Int) : (Int × Int) → List (Nat × Blk) := fun (y0, y1) => [(3, (.var [.cell (.int .i64 y1)])), (1, (.gr (.int .i64) 3 x4 true))]
noncomputable def f118_A (x1 x2 : Nat) (x3 : Int) (x4 : List Int) (x5 : Int) : List G := [(.r (.at (.sl 1 x1 x2))), (GI x3), (.r (.at (.ptr 3 0 0)))]
noncomputable def f118_K (x1 x2 : Nat) (x3 : Int) (x4 : List Int) (x5 : Int) : List (Nat × Blk) := [(1, (.gr (.int .i64) 3 x4 true)), (3, (.var [.cell (.int .i64 x5)]))]
def f118_C (x1 x2 : Nat) (x3 : Int) (x4 : List Int) (x5 : Int) (r : Int × Int) : Prop := CallOK cx 118 (f118_A x1 x2 x3 x4 x5) (f118_K x1 x2 x3 x4 x5) [] (f118_v r) (f118_k x1 x2 x3 x4 x5 r)

def f99_M : List Nat := [3]
noncomputable def f99_p1_H (x1 x2 : Nat) (x3 x4 : Int) (x5 : List Int) : GS := ⟨[(0, (.r (.at (.sl 1 x1 x2)))), (9, (.r (.at (.ptr 3 0 0)))), (10, (.r (.at (.int .i64 (w64 (x3 + (w64 ((w64 (Int.tdiv (w64 (x4 - x3)) 4)) * 1)))))))), (11, (.r (.at (.int .i64 (w64 (x3 + (w64 ((w64 (Int.tdiv (w64 (x4 - x3)) 4)) * 2)))))))), (12, (.r (.at (.int .i64 (w64 (x3 + (w64 ((w64 (Int.tdiv (w64 (x4 - x3)) 4)) * 3)))))))), (34, (.r (.at (.bool (decide ((w64 (x4 - x3)) ≥ 50))))))], [(1, (.gr (.int .i64) 3 x5 true)), (3, (.var [.cell (.int .i64 0)]))]⟩
noncomputable def f99_p1_x : (Int × Int × Int × Int) → GExit := fun (y0, y1, y2, y3) => .normal
noncomputable def f99_p1_s (x1 x2 : Nat) (x3 x4 : Int) (x5 : List Int) : (Int × Int × Int × Int) → GS := fun (y0, y1, y2, y3) => ⟨[(0, (.r (.at (.sl 1 x1 x2)))), (9, (.r (.at (.ptr 3 0 0)))), (10, (GI y0)), (11, (GI y1)), (12, (GI y2))], [(1, (.gr (.int .i64) 3 x5 true)), (3, (.var [.cell (.int .i64 y3)]))]⟩
def f99_p1_P (x1 x2 : Nat) (x3 x4 : Int) (x5 : List Int) (r : Int × Int × Int × Int) : Prop := Ex cx f99_M 57 (part Try.f99 1) (f99_p1_H x1 x2 x3 x4 x5) (f99_p1_x r) (f99_p1_s x1 x2 x3 x4 x5 r)
noncomputable def f99_p0_H (x1 x2 : Nat) (x4 x3 : Int) (x5 : List Int) : GS := ⟨[(0, (.r (.at (.sl 1 x1 x2)))), (8, (.r (.at (.int .i64 (w64 (x4 - x3)))))), (9, (.r (.at (.ptr 3 0 0)))), (10, (.r (.at (.int .i64 (w64 (x3 + (w64 ((w64 (Int.tdiv (w64 (x4 - x3)) 4)) * 1)))))))), (11, (.r (.at (.int .i64 (w64 (x3 + (w64 ((w64 (Int.tdiv (w64 (x4 - x3)) 4)) * 2)))))))), (12, (.r (.at (.int .i64 (w64 (x3 + (w64 ((w64 (Int.tdiv (w64 (x4 - x3)) 4)) * 3)))))))), (32, (.r (.at (.bool (decide ((w64 (x4 - x3)) ≥ 8))))))], [(1, (.gr (.int .i64) 3 x5 true)), (3, (.var [.cell (.int .i64 0)]))]⟩
noncomputable def f99_p0_x : (Int × Int) → GExit := fun (y0, y1) => .normal
noncomputable def f99_p0_s (x1 x2 : Nat) (x4 x3 : Int) (x5 : List Int) : (Int × Int) → GS := fun (y0, y1) => ⟨[(9, (.r (.at (.ptr 3 0 0)))), (11, (GI y0))], [(1, (.gr (.int .i64) 3 x5 true)), (3, (.var [.cell (.int .i64 y1)]))]⟩
def f99_p0_P (x1 x2 : Nat) (x4 x3 : Int) (x5 : List Int) (r : Int × Int) : Prop := Ex cx f99_M 57 (part Try.f99 0) (f99_p0_H x1 x2 x4 x3 x5) (f99_p0_x r) (f99_p0_s x1 x2 x4 x3 x5 r)
noncomputable def f99_v : (Int × Int) → G := fun (y0, y1) => (.tup [(.at (.int .i64 y0)), (.at (.int .i64 y1))])
noncomputable def f99_k0 : (Int × Int) → List (Nat × Blk) := fun (y0, y1) => []
noncomputable def f99_k (x1 x2 : Nat) (x3 x4 : Int) (x5 : List Int) : (Int × Int) → List (Nat × Blk) := fun (y0, y1) => [(1, (.gr (.int .i64) 3 x5 true))]
noncomputable def f99_A (x1 x2 : Nat) (x3 x4 : Int) (x5 : List Int) : List G := [(.r (.at (.sl 1 x1 x2))), (GI x3), (GI x4)]
noncomputable def f99_K (x1 x2 : Nat) (x3 x4 : Int) (x5 : List Int) : List (Nat × Blk) := [(1, (.gr (.int .i64) 3 x5 true))]
def f99_C (x1 x2 : Nat) (x3 x4 : Int) (x5 : List Int) (r : Int × Int) : Prop := CallOK cx 99 (f99_A x1 x2 x3 x4 x5) (f99_K x1 x2 x3 x4 x5) [] (f99_v r) (f99_k x1 x2 x3 x4 x5 r)

def f100_M : List Nat := []
noncomputable def f100_p1_H (x1 x2 : Nat) (x11 x12 : Int) (x10 : List Int) : GS := ⟨[(0, (.r (.at (.sl 1 x1 x2)))), (6, (GI x11)), (7, (GI x12))], [(1, (.gr (.int .i64) 3 x10 true))]⟩
noncomputable def f100_p1_x : (List Int) → GExit := fun y0 => (.exit 0)
noncomputable def f100_p1_s (x1 x2 : Nat) : (List Int) → GS := fun y0 => ⟨[], [(1, (.gr (.int .i64) 3 y0 true))]⟩
def f100_p1_P (x1 x2 : Nat) (x11 x12 : Int) (x10 : List Int) (r : (List Int)) : Prop := Lp cx f100_M 32 (part Try.f100 1) (f100_p1_H x1 x2 x11 x12 x10) (f100_p1_x r) (f100_p1_s x1 x2 r)
noncomputable def f100_v : (List Int) → G := fun y0 => (.r (.at .unit0))
noncomputable def f100_k0 : (List Int) → List (Nat × Blk) := fun y0 => [(1, (.gr (.int .i64) 3 y0 true))]
noncomputable def f100_k (x1 x2 : Nat) (x3 x4 : Int) (x5 : List Int) : (List Int) → List (Nat × Blk) := fun y0 => [(1, (.gr (.int .i64) 3 y0 true))]
noncomputable def f100_A (x1 x2 : Nat) (x3 x4 : Int) (x5 : List Int) : List G := [(.r (.at (.sl 1 x1 x2))), (GI x3), (GI x4)]
noncomputable def f100_K (x1 x2 : Nat) (x3 x4 : Int) (x5 : List Int) : List (Nat × Blk) := [(1, (.gr (.int .i64) 3 x5 true))]
def f100_C (x1 x2 : Nat) (x3 x4 : Int) (x5 : List Int) (r : (List Int)) : Prop := CallOK cx 100 (f100_A x1 x2 x3 x4 x5) (f100_K x1 x2 x3 x4 x5) [] (f100_v r) (f100_k x1 x2 x3 x4 x5 r)

def f101_M : List Nat := []
noncomputable def f101_p5_1_H (x1 x2 : Nat) (x3 x4 x39 : Int) (x37 : List Int) (x40 : Int) : GS := ⟨[(0, (.r (.at (.sl 1 x1 x2)))), (1, (GI x3)), (2, (GI x4)), (7, (GI x40)), (8, (GI x39))], [(1, (.gr (.int .i64) 3 x37 true))]⟩
noncomputable def f101_p5_1_x : Int → GExit := fun y0 => (.exit 2)
noncomputable def f101_p5_1_s (x1 x2 : Nat) (x3 x4 x39 : Int) (x37 : List Int) : Int → GS := fun y0 => ⟨[(0, (.r (.at (.sl 1 x1 x2)))), (1, (GI x3)), (2, (GI x4)), (7, (GI y0)), (8, (GI x39))], [(1, (.gr (.int .i64) 3 x37 true))]⟩
def f101_p5_1_P (x1 x2 : Nat) (x3 x4 x39 : Int) (x37 : List Int) (x40 : Int) (r : Int) : Prop := Lp cx f101_M 133 (part Try.f101 5) (f101_p5_1_H x1 x2 x3 x4 x39 x37 x40) (f101_p5_1_x r) (f101_p5_1_s x1 x2 x3 x4 x39 x37 r)
noncomputable def f101_p12_1_H (x1 x2 : Nat) (x3 x4 : Int) (x44 x39 x52 : Int) (x51 : List Int) : GS := ⟨[(0, (.r (.at (.sl 1 x1 x2)))), (1, (GI x3)), (2, (GI x4)), (7, (GI x44)), (8, (GI x39)), (9, (GI x52))], [(1, (.gr (.int .i64) 3 x51 true))]⟩
noncomputable def f101_p12_1_x : (List Int) → GExit := fun y0 => (.exit 4)
noncomputable def f101_p12_1_s (x1 x2 : Nat) (x3 x4 : Int) (x44 x39 : Int) : (List Int) → GS := fun y0 => ⟨[(0, (.r (.at (.sl 1 x1 x2)))), (1, (GI x3)), (2, (GI x4)), (7, (GI x44)), (8, (GI x39))], [(1, (.gr (.int .i64) 3 y0 true))]⟩
def f101_p12_1_P (x1 x2 : Nat) (x3 x4 : Int) (x44 x39 x52 : Int) (x51 : List Int) (r : (List Int)) : Prop := Lp cx f101_M 133 (part Try.f101 12) (f101_p12_1_H x1 x2 x3 x4 x44 x39 x52 x51) (f101_p12_1_x r) (f101_p12_1_s x1 x2 x3 x4 x44 x39 r)
noncomputable def f101_p10_1_H (x1 x2 : Nat) (x3 x4 : Int) (x44 x39 : Int) (x37 : List Int) (x45 x46 : Int) : GS := ⟨[(0, (.r (.at (.sl 1 x1 x2)))), (1, (GI x3)), (2, (GI x4)), (7, (GI x44)), (8, (GI x39)), (61, (.r (.at (.bool (decide ((w64 (x44 - x3)) ≥ 2))))))], [(1, (.gr (.int .i64) 3 ((List.set (List.set x37 (x1 + (Int.toNat x44)) x45) (x1 + (Int.toNat (w64 (x44 - 1)))) x46) : List Int) true))]⟩
noncomputable def f101_p10_1_x : (List Int) → GExit := fun y0 => .normal
noncomputable def f101_p10_1_s (x1 x2 : Nat) (x3 x4 : Int) (x44 x39 : Int) (x37 : List Int) (x45 x46 : Int) : (List Int) → GS := fun y0 => ⟨[(0, (.r (.at (.sl 1 x1 x2)))), (1, (GI x3)), (2, (GI x4)), (7, (GI x44)), (8, (GI x39))], [(1, (.gr (.int .i64) 3 y0 true))]⟩
def f101_p10_1_P (x1 x2 : Nat) (x3 x4 : Int) (x44 x39 : Int) (x37 : List Int) (x45 x46 : Int) (r : (List Int)) : Prop := Ex cx f101_M 133 (part Try.f101 10) (f101_p10_1_H x1 x2 x3 x4 x44 x39 x37 x45 x46) (f101_p10_1_x r) (f101_p10_1_s x1 x2 x3 x4 x44 x39 x37 x45 x46 r)
noncomputable def f101_p18_1_H (x1 x2 : Nat) (x3 x4 : Int) (x44 x39 x63 : Int) (x62 : List Int) : GS := ⟨[(0, (.r (.at (.sl 1 x1 x2)))), (1, (GI x3)), (2, (GI x4)), (7, (GI x44)), (8, (GI x39)), (10, (GI x63))], [(1, (.gr (.int .i64) 3 x62 true))]⟩
noncomputable def f101_p18_1_x : (List Int) → GExit := fun y0 => (.exit 6)
noncomputable def f101_p18_1_s (x1 x2 : Nat) (x3 x4 : Int) (x44 x39 : Int) : (List Int) → GS := fun y0 => ⟨[(0, (.r (.at (.sl 1 x1 x2)))), (1, (GI x3)), (2, (GI x4)), (7, (GI x44)), (8, (GI x39))], [(1, (.gr (.int .i64) 3 y0 true))]⟩
def f101_p18_1_P (x1 x2 : Nat) (x3 x4 : Int) (x44 x39 x63 : Int) (x62 : List Int) (r : (List Int)) : Prop := Lp cx f101_M 133 (part Try.f101 18) (f101_p18_1_H x1 x2 x3 x4 x44 x39 x63 x62) (f101_p18_1_x r) (f101_p18_1_s x1 x2 x3 x4 x44 x39 r)
noncomputable def f101_p16_1_H (x1 x2 : Nat) (x3 x4 : Int) (x44 x39 : Int) (x57 : List Int) : GS := ⟨[(0, (.r (.at (.sl 1 x1 x2)))), (1, (GI x3)), (2, (GI x4)), (7, (GI x44)), (8, (GI x39)), (98, (.r (.at (.bool (decide ((w64 (x4 - x44)) ≥ 2))))))], [(1, (.gr (.int .i64) 3 x57 true))]⟩
noncomputable def f101_p16_1_x : (List Int) → GExit := fun y0 => .normal
noncomputable def f101_p16_1_s (x1 x2 : Nat) (x3 x4 : Int) (x44 x39 : Int) (x57 : List Int) : (List Int) → GS := fun y0 => ⟨[(0, (.r (.at (.sl 1 x1 x2)))), (1, (GI x3)), (2, (GI x4)), (7, (GI x44)), (8, (GI x39))], [(1, (.gr (.int .i64) 3 y0 true))]⟩
def f101_p16_1_P (x1 x2 : Nat) (x3 x4 : Int) (x44 x39 : Int) (x57 : List Int) (r : (List Int)) : Prop := Ex cx f101_M 133 (part Try.f101 16) (f101_p16_1_H x1 x2 x3 x4 x44 x39 x57) (f101_p16_1_x r) (f101_p16_1_s x1 x2 x3 x4 x44 x39 x57 r)
noncomputable def f101_p1_8_H (x1 x2 : Nat) (x3 x4 : Int) (x38 x39 : Int) (x37 : List Int) : GS := ⟨[(0, (.r (.at (.sl 1 x1 x2)))), (1, (GI x3)), (2, (GI x4)), (7, (GI x38)), (8, (GI x39))], [(1, (.gr (.int .i64) 3 x37 true))]⟩
noncomputable def f101_p1_8_x : f101_p1_8_R → GExit := fun
  | .c0 y0 y1 => .ret
  | .c1 y0 => (.exit 0)
noncomputable def f101_p1_8_s (x1 x2 : Nat) (x3 x4 : Int) : f101_p1_8_R → GS := fun
  | .c0 y0 y1 => ⟨[(6, (GB y0))], [(1, (.gr (.int .i64) 3 y1 true))]⟩
  | .c1 y0 => ⟨[], [(1, (.gr (.int .i64) 3 y0 true))]⟩
def f101_p1_8_P (x1 x2 : Nat) (x3 x4 : Int) (x38 x39 : Int) (x37 : List Int) (r : f101_p1_8_R) : Prop := Lp cx f101_M 133 (part Try.f101 1) (f101_p1_8_H x1 x2 x3 x4 x38 x39 x37) (f101_p1_8_x r) (f101_p1_8_s x1 x2 x3 x4 r)
noncomputable def f101_v : (Bool × (List Int)) → G := fun (y0, y1) => (GB y0)
noncomputable def f101_k0 : (Bool × (List Int)) → List (Nat × Blk) := fun (y0, y1) => [(1, (.gr (.int .i64) 3 y1 true))]
noncomputable def f101_k (x1 x2 : Nat) (x3 x4 : Int) (x5 : List Int) : (Bool × (List Int)) → List (Nat × Blk) := fun (y0, y1) => [(1, (.gr (.int .i64) 3 y1 true))]
noncomputable def f101_A (x1 x2 : Nat) (x3 x4 : Int) (x5 : List Int) : List G := [(.r (.at (.sl 1 x1 x2))), (GI x3), (GI x4)]
noncomputable def f101_K (x1 x2 : Nat) (x3 x4 : Int) (x5 : List Int) : List (Nat × Blk) := [(1, (.gr (.int .i64) 3 x5 true))]
def f101_C (x1 x2 : Nat) (x3 x4 : Int) (x5 : List Int) (r : Bool × (List Int)) : Prop := CallOK cx 101 (f101_A x1 x2 x3 x4 x5) (f101_K x1 x2 x3 x4 x5) [] (f101_v r) (f101_k x1 x2 x3 x4 x5 r)

def f104_M : List Nat := []
noncomputable def f104_p1_H (x1 x2 : Nat) (x3 x4 : Int) (x6 : List Int) (x7 x5 : Int) (x8 x9 : Int) : GS := ⟨[(0, (.r (.at (.sl 1 x1 x2)))), (1, (GI x3)), (10, (GI x9)), (11, (.r (.at (.int .i64 (w64 (x4 - 1))))))], [(1, (.gr (.int .i64) 3 ((List.set (List.set x6 (x1 + (Int.toNat x3)) x7) (x1 + (Int.toNat x5)) x8) : List Int) true))]⟩
noncomputable def f104_p1_x : Int → GExit := fun y0 => (.exit 0)
noncomputable def f104_p1_s (x1 x2 : Nat) (x3 x4 : Int) (x6 : List Int) (x7 x5 x8 : Int) : Int → GS := fun y0 => ⟨[(0, (.r (.at (.sl 1 x1 x2)))), (1, (GI x3)), (10, (GI y0)), (11, (.r (.at (.int .i64 (w64 (x4 - 1))))))], [(1, (.gr (.int .i64) 3 ((List.set (List.set x6 (x1 + (Int.toNat x3)) x7) (x1 + (Int.toNat x5)) x8) : List Int) true))]⟩
def f104_p1_P (x1 x2 : Nat) (x3 x4 : Int) (x6 : List Int) (x7 x5 : Int) (x8 x9 : Int) (r : Int) : Prop := Lp cx f104_M 168 (part Try.f104 1) (f104_p1_H x1 x2 x3 x4 x6 x7 x5 x8 x9) (f104_p1_x r) (f104_p1_s x1 x2 x3 x4 x6 x7 x5 x8 r)
noncomputable def f104_p5_H (x1 x2 : Nat) (x3 x13 : Int) (x6 : List Int) (x7 x5 : Int) (x8 x14 : Int) : GS := ⟨[(0, (.r (.at (.sl 1 x1 x2)))), (1, (GI x3)), (10, (GI x13)), (11, (GI x14))], [(1, (.gr (.int .i64) 3 ((List.set (List.set x6 (x1 + (Int.toNat x3)) x7) (x1 + (Int.toNat x5)) x8) : List Int) true))]⟩
noncomputable def f104_p5_x : Int → GExit := fun y0 => (.exit 2)
noncomputable def f104_p5_s (x1 x2 : Nat) (x3 x13 : Int) (x6 : List Int) (x7 x5 x8 : Int) : Int → GS := fun y0 => ⟨[(0, (.r (.at (.sl 1 x1 x2)))), (1, (GI x3)), (10, (GI x13)), (11, (GI y0))], [(1, (.gr (.int .i64) 3 ((List.set (List.set x6 (x1 + (Int.toNat x3)) x7) (x1 + (Int.toNat x5)) x8) : List Int) true))]⟩
def f104_p5_P (x1 x2 : Nat) (x3 x13 : Int) (x6 : List Int) (x7 x5 : Int) (x8 x14 : Int) (r : Int) : Prop := Lp cx f104_M 168 (part Try.f104 5) (f104_p5_H x1 x2 x3 x13 x6 x7 x5 x8 x14) (f104_p5_x r) (f104_p5_s x1 x2 x3 x13 x6 x7 x5 x8 r)
noncomputable def f104_p13_1_H (x1 x2 : Nat) (x3 x39 : Int) (x37 : List Int) (x40 : Int) : GS := ⟨[(0, (.r (.at (.sl 1 x1 x2)))), (1, (GI x3)), (10, (GI x40)), (11, (GI x39))], [(1, (.gr (.int .i64) 3 x37 true))]⟩
noncomputable def f104_p13_1_x : Int → GExit := fun y0 => (.exit 6)
noncomputable def f104_p13_1_s (x1 x2 : Nat) (x3 x39 : Int) (x37 : List Int) : Int → GS := fun y0 => ⟨[(0, (.r (.at (.sl 1 x1 x2)))), (1, (GI x3)), (10, (GI y0)), (11, (GI x39))], [(1, (.gr (.int .i64) 3 x37 true))]⟩
def f104_p13_1_P (x1 x2 : Nat) (x3 x39 : Int) (x37 : List Int) (x40 : Int) (r : Int) : Prop := Lp cx f104_M 168 (part Try.f104 13) (f104_p13_1_H x1 x2 x3 x39 x37 x40) (f104_p13_1_x r) (f104_p13_1_s x1 x2 x3 x39 x37 r)
noncomputable def f104_p17_1_H (x1 x2 : Nat) (x3 x44 : Int) (x37 : List Int) (x45 : Int) : GS := ⟨[(0, (.r (.at (.sl 1 x1 x2)))), (1, (GI x3)), (10, (GI x44)), (11, (GI x45))], [(1, (.gr (.int .i64) 3 x37 true))]⟩
noncomputable def f104_p17_1_x : Int → GExit := fun y0 => (.exit 8)
noncomputable def f104_p17_1_s (x1 x2 : Nat) (x3 x44 : Int) (x37 : List Int) : Int → GS := fun y0 => ⟨[(0, (.r (.at (.sl 1 x1 x2)))), (1, (GI x3)), (10, (GI x44)), (11, (GI y0))], [(1, (.gr (.int .i64) 3 x37 true))]⟩
def f104_p17_1_P (x1 x2 : Nat) (x3 x44 : Int) (x37 : List Int) (x45 : Int) (r : Int) : Prop := Lp cx f104_M 168 (part Try.f104 17) (f104_p17_1_H x1 x2 x3 x44 x37 x45) (f104_p17_1_x r) (f104_p17_1_s x1 x2 x3 x44 x37 r)
noncomputable def f104_p10_H (x1 x2 : Nat) (x3 x38 x39 : Int) (x37 : List Int) : GS := ⟨[(0, (.r (.at (.sl 1 x1 x2)))), (1, (GI x3)), (10, (GI x38)), (11, (GI x39))], [(1, (.gr (.int .i64) 3 x37 true))]⟩
noncomputable def f104_p10_x : (Int × (List Int)) → GExit := fun (y0, y1) => (.exit 4)
noncomputable def f104_p10_s (x1 x2 : Nat) (x3 : Int) : (Int × (List Int)) → GS := fun (y0, y1) => ⟨[(0, (.r (.at (.sl 1 x1 x2)))), (1, (GI x3)), (11, (GI y0))], [(1, (.gr (.int .i64) 3 y1 true))]⟩
def f104_p10_P (x1 x2 : Nat) (x3 x38 x39 : Int) (x37 : List Int) (r : Int × (List Int)) : Prop := Lp cx f104_M 168 (part Try.f104 10) (f104_p10_H x1 x2 x3 x38 x39 x37) (f104_p10_x r) (f104_p10_s x1 x2 x3 r)
noncomputable def f104_v : (Int × Bool × (List Int)) → G := fun (y0, y1, y2) => (.tup [(.at (.int .i64 y0)), (.at (.bool y1))])
noncomputable def f104_k0 : (Int × Bool × (List Int)) → List (Nat × Blk) := fun (y0, y1, y2) => [(1, (.gr (.int .i64) 3 y2 true))]
noncomputable def f104_k (x1 x2 : Nat) (x3 x4 x5 : Int) (x6 : List Int) : (Int × Bool × (List Int)) → List (Nat × Blk) := fun (y0, y1, y2) => [(1, (.gr (.int .i64) 3 y2 true))]
noncomputable def f104_A (x1 x2 : Nat) (x3 x4 x5 : Int) (x6 : List Int) : List G := [(.r (.at (.sl 1 x1 x2))), (GI x3), (GI x4), (GI x5)]
noncomputable def f104_K (x1 x2 : Nat) (x3 x4 x5 : Int) (x6 : List Int) : List (Nat × Blk) := [(1, (.gr (.int .i64) 3 x6 true))]
def f104_C (x1 x2 : Nat) (x3 x4 x5 : Int) (x6 : List Int) (r : Int × Bool × (List Int)) : Prop := CallOK cx 104 (f104_A x1 x2 x3 x4 x5 x6) (f104_K x1 x2 x3 x4 x5 x6) [] (f104_v r) (f104_k x1 x2 x3 x4 x5 x6 r)

def f103_M : List Nat := []
noncomputable def f103_p4_1_H (x1 x2 : Nat) (x3 x25 : Int) (x23 : List Int) (x26 : Int) : GS := ⟨[(0, (.r (.at (.sl 1 x1 x2)))), (1, (GI x3)), (9, (GI x26)), (10, (GI x25))], [(1, (.gr (.int .i64) 3 x23 true))]⟩
noncomputable def f103_p4_1_x : Int → GExit := fun y0 => (.exit 2)
noncomputable def f103_p4_1_s (x1 x2 : Nat) (x3 x25 : Int) (x23 : List Int) : Int → GS := fun y0 => ⟨[(0, (.r (.at (.sl 1 x1 x2)))), (1, (GI x3)), (9, (GI y0)), (10, (GI x25))], [(1, (.gr (.int .i64) 3 x23 true))]⟩
def f103_p4_1_P (x1 x2 : Nat) (x3 x25 : Int) (x23 : List Int) (x26 : Int) (r : Int) : Prop := Lp cx f103_M 84 (part Try.f103 4) (f103_p4_1_H x1 x2 x3 x25 x23 x26) (f103_p4_1_x r) (f103_p4_1_s x1 x2 x3 x25 x23 r)
noncomputable def f103_p8_1_H (x1 x2 : Nat) (x3 x30 : Int) (x23 : List Int) (x31 : Int) : GS := ⟨[(0, (.r (.at (.sl 1 x1 x2)))), (1, (GI x3)), (9, (GI x30)), (10, (GI x31))], [(1, (.gr (.int .i64) 3 x23 true))]⟩
noncomputable def f103_p8_1_x : Int → GExit := fun y0 => (.exit 4)
noncomputable def f103_p8_1_s (x1 x2 : Nat) (x3 x30 : Int) (x23 : List Int) : Int → GS := fun y0 => ⟨[(0, (.r (.at (.sl 1 x1 x2)))), (1, (GI x3)), (9, (GI x30)), (10, (GI y0))], [(1, (.gr (.int .i64) 3 x23 true))]⟩
def f103_p8_1_P (x1 x2 : Nat) (x3 x30 : Int) (x23 : List Int) (x31 : Int) (r : Int) : Prop := Lp cx f103_M 84 (part Try.f103 8) (f103_p8_1_H x1 x2 x3 x30 x23 x31) (f103_p8_1_x r) (f103_p8_1_s x1 x2 x3 x30 x23 r)
noncomputable def f103_p1_H (x1 x2 : Nat) (x3 x24 x25 : Int) (x23 : List Int) : GS := ⟨[(0, (.r (.at (.sl 1 x1 x2)))), (1, (GI x3)), (9, (GI x24)), (10, (GI x25))], [(1, (.gr (.int .i64) 3 x23 true))]⟩
noncomputable def f103_p1_x : (Int × (List Int)) → GExit := fun (y0, y1) => (.exit 0)
noncomputable def f103_p1_s (x1 x2 : Nat) (x3 : Int) : (Int × (List Int)) → GS := fun (y0, y1) => ⟨[(9, (GI y0))], [(1, (.gr (.int .i64) 3 y1 true))]⟩
def f103_p1_P (x1 x2 : Nat) (x3 x24 x25 : Int) (x23 : List Int) (r : Int × (List Int)) : Prop := Lp cx f103_M 84 (part Try.f103 1) (f103_p1_H x1 x2 x3 x24 x25 x23) (f103_p1_x r) (f103_p1_s x1 x2 x3 r)
noncomputable def f103_v : (Int × (List Int)) → G := fun (y0, y1) => (GI y0)
noncomputable def f103_k0 : (Int × (List Int)) → List (Nat × Blk) := fun (y0, y1) => [(1, (.gr (.int .i64) 3 y1 true))]
noncomputable def f103_k (x1 x2 : Nat) (x3 x4 x5 : Int) (x6 : List Int) : (Int × (List Int)) → List (Nat × Blk) := fun (y0, y1) => [(1, (.gr (.int .i64) 3 y1 true))]
noncomputable def f103_A (x1 x2 : Nat) (x3 x4 x5 : Int) (x6 : List Int) : List G := [(.r (.at (.sl 1 x1 x2))), (GI x3), (GI x4), (GI x5)]
noncomputable def f103_K (x1 x2 : Nat) (x3 x4 x5 : Int) (x6 : List Int) : List (Nat × Blk) := [(1, (.gr (.int .i64) 3 x6 true))]
def f103_C (x1 x2 : Nat) (x3 x4 x5 : Int) (x6 : List Int) (r : Int × (List Int)) : Prop := CallOK cx 103 (f103_A x1 x2 x3 x4 x5 x6) (f103_K x1 x2 x3 x4 x5 x6) [] (f103_v r) (f103_k x1 x2 x3 x4 x5 x6 r)

def f91_M : List Nat := []
noncomputable def f91_p5_1_H (x1 x2 : Nat) (x40 x41 x42 : Int) (x43 x44 : Bool) (x39 : List Int) : GS := ⟨[(0, (.r (.at (.sl 1 x1 x2)))), (1, (GI x40)), (2, (GI x41)), (3, (GI x42)), (8, (GB x43)), (9, (GB x44)), (10, (.r (.at (.int .i64 (w64 (x41 - x40)))))), (35, (.r (.at (.bool (!x43)))))], [(1, (.gr (.int .i64) 3 x39 true))]⟩
noncomputable def f91_p5_1_x : (Int × (List Int)) → GExit := fun (y0, y1) => .normal
noncomputable def f91_p5_1_s (x1 x2 : Nat) (x40 x41 x42 : Int) (x43 x44 : Bool) (x39 : List Int) : (Int × (List Int)) → GS := fun (y0, y1) => ⟨[(0, (.r (.at (.sl 1 x1 x2)))), (1, (GI x40)), (2, (GI x41)), (3, (GI y0)), (8, (GB x43)), (9, (GB x44)), (10, (.r (.at (.int .i64 (w64 (x41 - x40))))))], [(1, (.gr (.int .i64) 3 y1 true))]⟩
def f91_p5_1_P (x1 x2 : Nat) (x40 x41 x42 : Int) (x43 x44 : Bool) (x39 : List Int) (r : Int × (List Int)) : Prop := Ex cx f91_M 134 (part Try.f91 5) (f91_p5_1_H x1 x2 x40 x41 x42 x43 x44 x39) (f91_p5_1_x r) (f91_p5_1_s x1 x2 x40 x41 x42 x43 x44 x39 r)
noncomputable def f91_p6_1_H (x1 x2 : Nat) (x40 x41 x48 : Int) (x43 x44 : Bool) (x50 x51 : Int) (x49 : List Int) : GS := ⟨[(0, (.r (.at (.sl 1 x1 x2)))), (1, (GI x40)), (2, (GI x41)), (3, (GI x48)), (8, (GB x43)), (9, (GB x44)), (10, (.r (.at (.int .i64 (w64 (x41 - x40)))))), (11, (GI x50)), (12, (GI x51)), (50, (.r (.at (.bool (x51 == 2)))))], [(1, (.gr (.int .i64) 3 x49 true))]⟩
noncomputable def f91_p6_1_x : (Int × Int × (List Int)) → GExit := fun (y0, y1, y2) => .normal
noncomputable def f91_p6_1_s (x1 x2 : Nat) (x40 x41 x48 : Int) (x43 x44 : Bool) (x50 x51 : Int) (x49 : List Int) : (Int × Int × (List Int)) → GS := fun (y0, y1, y2) => ⟨[(0, (.r (.at (.sl 1 x1 x2)))), (1, (GI x40)), (2, (GI x41)), (3, (GI x48)), (8, (GB x43)), (9, (GB x44)), (10, (.r (.at (.int .i64 (w64 (x41 - x40)))))), (11, (GI y0)), (12, (GI y1))], [(1, (.gr (.int .i64) 3 y2 true))]⟩
def f91_p6_1_P (x1 x2 : Nat) (x40 x41 x48 : Int) (x43 x44 : Bool) (x50 x51 : Int) (x49 : List Int) (r : Int × Int × (List Int)) : Prop := Ex cx f91_M 134 (part Try.f91 6) (f91_p6_1_H x1 x2 x40 x41 x48 x43 x44 x50 x51 x49) (f91_p6_1_x r) (f91_p6_1_s x1 x2 x40 x41 x48 x43 x44 x50 x51 x49 r)
noncomputable def f91_p7_1_H (x1 x2 : Nat) (x40 x41 x48 : Int) (x43 x44 : Bool) (x53 x54 : Int) (x55 : List Int) : GS := ⟨[(0, (.r (.at (.sl 1 x1 x2)))), (1, (GI x40)), (2, (GI x41)), (3, (GI x48)), (8, (GB x43)), (9, (GB x44)), (10, (.r (.at (.int .i64 (w64 (x41 - x40)))))), (11, (GI x53)), (68, (.r (.at (.bool (x54 == 1)))))], [(1, (.gr (.int .i64) 3 x55 true))]⟩
noncomputable def f91_p7_1_x : f91_p7_1_R → GExit := fun
  | .c0 y0 => .ret
  | .c1 y0 => .normal
noncomputable def f91_p7_1_s (x1 x2 : Nat) (x40 x41 x48 : Int) (x43 x44 : Bool) (x53 x54 : Int) (x55 : List Int) : f91_p7_1_R → GS := fun
  | .c0 y0 => ⟨[], [(1, (.gr (.int .i64) 3 y0 true))]⟩
  | .c1 y0 => ⟨[(0, (.r (.at (.sl 1 x1 x2)))), (1, (GI x40)), (2, (GI x41)), (3, (GI x48)), (8, (GB x43)), (9, (GB x44)), (10, (.r (.at (.int .i64 (w64 (x41 - x40)))))), (11, (GI x53))], [(1, (.gr (.int .i64) 3 y0 true))]⟩
def f91_p7_1_P (x1 x2 : Nat) (x40 x41 x48 : Int) (x43 x44 : Bool) (x53 x54 : Int) (x55 : List Int) (r : f91_p7_1_R) : Prop := Ex cx f91_M 134 (part Try.f91 7) (f91_p7_1_H x1 x2 x40 x41 x48 x43 x44 x53 x54 x55) (f91_p7_1_x r) (f91_p7_1_s x1 x2 x40 x41 x48 x43 x44 x53 x54 x55 r)
noncomputable def f91_p10_1_H (x1 x2 : Nat) (x40 x41 x48 : Int) (x64 : Bool) (x63 : Int) (x65 : List Int) : GS := ⟨[(0, (.r (.at (.sl 1 x1 x2)))), (1, (GI x40)), (2, (GI x41)), (3, (GI x48)), (9, (GB x64)), (14, (GI x63)), (16, (.r (.at (.int .i64 (w64 (x63 - x40)))))), (17, (.r (.at (.int .i64 (w64 (x41 - x63)))))), (18, (.r (.at (.int .i64 (w64 (Int.tdiv (w64 (x41 - x40)) 8)))))), (113, (.r (.at (.bool (decide ((w64 (x63 - x40)) < (w64 (x41 - x63))))))))], [(1, (.gr (.int .i64) 3 x65 true))]⟩
noncomputable def f91_p10_1_x : (Int × Int × Bool × (List Int)) → GExit := fun (y0, y1, y2, y3) => .normal
noncomputable def f91_p10_1_s (x1 x2 : Nat) (x40 x41 x48 : Int) (x64 : Bool) (x63 : Int) (x65 : List Int) : (Int × Int × Bool × (List Int)) → GS := fun (y0, y1, y2, y3) => ⟨[(0, (.r (.at (.sl 1 x1 x2)))), (1, (GI y0)), (2, (GI y1)), (3, (GI x48)), (8, (GB y2)), (9, (GB x64))], [(1, (.gr (.int .i64) 3 y3 true))]⟩
def f91_p10_1_P (x1 x2 : Nat) (x40 x41 x48 : Int) (x64 : Bool) (x63 : Int) (x65 : List Int) (r : Int × Int × Bool × (List Int)) : Prop := Ex cx f91_M 134 (part Try.f91 10) (f91_p10_1_H x1 x2 x40 x41 x48 x64 x63 x65) (f91_p10_1_x r) (f91_p10_1_s x1 x2 x40 x41 x48 x64 x63 x65 r)
noncomputable def f91_p10_2_H (x1 x2 : Nat) (x40 x41 x48 : Int) (x75 : Bool) (x74 : Int) (x76 : List Int) : GS := ⟨[(0, (.r (.at (.sl 1 x1 x2)))), (1, (GI x40)), (2, (GI x41)), (3, (GI x48)), (9, (GB x75)), (14, (GI x74)), (16, (.r (.at (.int .i64 (w64 (x74 - x40)))))), (17, (.r (.at (.int .i64 (w64 (x41 - x74)))))), (18, (.r (.at (.int .i64 (w64 (Int.tdiv (w64 (x41 - x40)) 8)))))), (113, (.r (.at (.bool (decide ((w64 (x74 - x40)) < (w64 (x41 - x74))))))))], [(1, (.gr (.int .i64) 3 x76 true))]⟩
noncomputable def f91_p10_2_x : (Int × Int × Bool × (List Int)) → GExit := fun (y0, y1, y2, y3) => .normal
noncomputable def f91_p10_2_s (x1 x2 : Nat) (x40 x41 x48 : Int) (x75 : Bool) (x74 : Int) (x76 : List Int) : (Int × Int × Bool × (List Int)) → GS := fun (y0, y1, y2, y3) => ⟨[(0, (.r (.at (.sl 1 x1 x2)))), (1, (GI y0)), (2, (GI y1)), (3, (GI x48)), (8, (GB y2)), (9, (GB x75))], [(1, (.gr (.int .i64) 3 y3 true))]⟩
def f91_p10_2_P (x1 x2 : Nat) (x40 x41 x48 : Int) (x75 : Bool) (x74 : Int) (x76 : List Int) (r : Int × Int × Bool × (List Int)) : Prop := Ex cx f91_M 134 (part Try.f91 10) (f91_p10_2_H x1 x2 x40 x41 x48 x75 x74 x76) (f91_p10_2_x r) (f91_p10_2_s x1 x2 x40 x41 x48 x75 x74 x76 r)
noncomputable def f91_p10_3_H (x1 x2 : Nat) (x40 x41 x48 : Int) (x87 : Bool) (x86 : Int) (x88 : List Int) : GS := ⟨[(0, (.r (.at (.sl 1 x1 x2)))), (1, (GI x40)), (2, (GI x41)), (3, (GI x48)), (9, (GB x87)), (14, (GI x86)), (16, (.r (.at (.int .i64 (w64 (x86 - x40)))))), (17, (.r (.at (.int .i64 (w64 (x41 - x86)))))), (18, (.r (.at (.int .i64 (w64 (Int.tdiv (w64 (x41 - x40)) 8)))))), (113, (.r (.at (.bool (decide ((w64 (x86 - x40)) < (w64 (x41 - x86))))))))], [(1, (.gr (.int .i64) 3 x88 true))]⟩
noncomputable def f91_p10_3_x : (Int × Int × Bool × (List Int)) → GExit := fun (y0, y1, y2, y3) => .normal
noncomputable def f91_p10_3_s (x1 x2 : Nat) (x40 x41 x48 : Int) (x87 : Bool) (x86 : Int) (x88 : List Int) : (Int × Int × Bool × (List Int)) → GS := fun (y0, y1, y2, y3) => ⟨[(0, (.r (.at (.sl 1 x1 x2)))), (1, (GI y0)), (2, (GI y1)), (3, (GI x48)), (8, (GB y2)), (9, (GB x87))], [(1, (.gr (.int .i64) 3 y3 true))]⟩
def f91_p10_3_P (x1 x2 : Nat) (x40 x41 x48 : Int) (x87 : Bool) (x86 : Int) (x88 : List Int) (r : Int × Int × Bool × (List Int)) : Prop := Ex cx f91_M 134 (part Try.f91 10) (f91_p10_3_H x1 x2 x40 x41 x48 x87 x86 x88) (f91_p10_3_x r) (f91_p10_3_s x1 x2 x40 x41 x48 x87 x86 x88 r)
noncomputable def f91_p10_4_H (x1 x2 : Nat) (x40 x41 x48 : Int) (x98 : Bool) (x97 : Int) (x99 : List Int) : GS := ⟨[(0, (.r (.at (.sl 1 x1 x2)))), (1, (GI x40)), (2, (GI x41)), (3, (GI x48)), (9, (GB x98)), (14, (GI x97)), (16, (.r (.at (.int .i64 (w64 (x97 - x40)))))), (17, (.r (.at (.int .i64 (w64 (x41 - x97)))))), (18, (.r (.at (.int .i64 (w64 (Int.tdiv (w64 (x41 - x40)) 8)))))), (113, (.r (.at (.bool (decide ((w64 (x97 - x40)) < (w64 (x41 - x97))))))))], [(1, (.gr (.int .i64) 3 x99 true))]⟩
noncomputable def f91_p10_4_x : (Int × Int × Bool × (List Int)) → GExit := fun (y0, y1, y2, y3) => .normal
noncomputable def f91_p10_4_s (x1 x2 : Nat) (x40 x41 x48 : Int) (x98 : Bool) (x97 : Int) (x99 : List Int) : (Int × Int × Bool × (List Int)) → GS := fun (y0, y1, y2, y3) => ⟨[(0, (.r (.at (.sl 1 x1 x2)))), (1, (GI y0)), (2, (GI y1)), (3, (GI x48)), (8, (GB y2)), (9, (GB x98))], [(1, (.gr (.int .i64) 3 y3 true))]⟩
def f91_p10_4_P (x1 x2 : Nat) (x40 x41 x48 : Int) (x98 : Bool) (x97 : Int) (x99 : List Int) (r : Int × Int × Bool × (List Int)) : Prop := Ex cx f91_M 134 (part Try.f91 10) (f91_p10_4_H x1 x2 x40 x41 x48 x98 x97 x99) (f91_p10_4_x r) (f91_p10_4_s x1 x2 x40 x41 x48 x98 x97 x99 r)
noncomputable def f91_p10_5_H (x1 x2 : Nat) (x40 x41 x48 : Int) (x110 : Bool) (x109 : Int) (x111 : List Int) : GS := ⟨[(0, (.r (.at (.sl 1 x1 x2)))), (1, (GI x40)), (2, (GI x41)), (3, (GI x48)), (9, (GB x110)), (14, (GI x109)), (16, (.r (.at (.int .i64 (w64 (x109 - x40)))))), (17, (.r (.at (.int .i64 (w64 (x41 - x109)))))), (18, (.r (.at (.int .i64 (w64 (Int.tdiv (w64 (x41 - x40)) 8)))))), (113, (.r (.at (.bool (decide ((w64 (x109 - x40)) < (w64 (x41 - x109))))))))], [(1, (.gr (.int .i64) 3 x111 true))]⟩
noncomputable def f91_p10_5_x : (Int × Int × Bool × (List Int)) → GExit := fun (y0, y1, y2, y3) => .normal
noncomputable def f91_p10_5_s (x1 x2 : Nat) (x40 x41 x48 : Int) (x110 : Bool) (x109 : Int) (x111 : List Int) : (Int × Int × Bool × (List Int)) → GS := fun (y0, y1, y2, y3) => ⟨[(0, (.r (.at (.sl 1 x1 x2)))), (1, (GI y0)), (2, (GI y1)), (3, (GI x48)), (8, (GB y2)), (9, (GB x110))], [(1, (.gr (.int .i64) 3 y3 true))]⟩
def f91_p10_5_P (x1 x2 : Nat) (x40 x41 x48 : Int) (x110 : Bool) (x109 : Int) (x111 : List Int) (r : Int × Int × Bool × (List Int)) : Prop := Ex cx f91_M 134 (part Try.f91 10) (f91_p10_5_H x1 x2 x40 x41 x48 x110 x109 x111) (f91_p10_5_x r) (f91_p10_5_s x1 x2 x40 x41 x48 x110 x109 x111 r)
noncomputable def f91_p10_6_H (x1 x2 : Nat) (x40 x41 x48 : Int) (x121 : Bool) (x120 : Int) (x122 : List Int) : GS := ⟨[(0, (.r (.at (.sl 1 x1 x2)))), (1, (GI x40)), (2, (GI x41)), (3, (GI x48)), (9, (GB x121)), (14, (GI x120)), (16, (.r (.at (.int .i64 (w64 (x120 - x40)))))), (17, (.r (.at (.int .i64 (w64 (x41 - x120)))))), (18, (.r (.at (.int .i64 (w64 (Int.tdiv (w64 (x41 - x40)) 8)))))), (113, (.r (.at (.bool (decide ((w64 (x120 - x40)) < (w64 (x41 - x120))))))))], [(1, (.gr (.int .i64) 3 x122 true))]⟩
noncomputable def f91_p10_6_x : (Int × Int × Bool × (List Int)) → GExit := fun (y0, y1, y2, y3) => .normal
noncomputable def f91_p10_6_s (x1 x2 : Nat) (x40 x41 x48 : Int) (x121 : Bool) (x120 : Int) (x122 : List Int) : (Int × Int × Bool × (List Int)) → GS := fun (y0, y1, y2, y3) => ⟨[(0, (.r (.at (.sl 1 x1 x2)))), (1, (GI y0)), (2, (GI y1)), (3, (GI x48)), (8, (GB y2)), (9, (GB x121))], [(1, (.gr (.int .i64) 3 y3 true))]⟩
def f91_p10_6_P (x1 x2 : Nat) (x40 x41 x48 : Int) (x121 : Bool) (x120 : Int) (x122 : List Int) (r : Int × Int × Bool × (List Int)) : Prop := Ex cx f91_M 134 (part Try.f91 10) (f91_p10_6_H x1 x2 x40 x41 x48 x121 x120 x122) (f91_p10_6_x r) (f91_p10_6_s x1 x2 x40 x41 x48 x121 x120 x122 r)
noncomputable def f91_p1_7_H (x1 x2 : Nat) (x40 x41 x42 : Int) (x43 x44 : Bool) (x39 : List Int) : GS := ⟨[(0, (.r (.at (.sl 1 x1 x2)))), (1, (GI x40)), (2, (GI x41)), (3, (GI x42)), (8, (GB x43)), (9, (GB x44))], [(1, (.gr (.int .i64) 3 x39 true))]⟩
noncomputable def f91_p1_7_x : (List Int) → GExit := fun y0 => .ret
noncomputable def f91_p1_7_s (x1 x2 : Nat) : (List Int) → GS := fun y0 => ⟨[], [(1, (.gr (.int .i64) 3 y0 true))]⟩
def f91_p1_7_P (x1 x2 : Nat) (x40 x41 x42 : Int) (x43 x44 : Bool) (x39 : List Int) (r : (List Int)) : Prop := Lp cx f91_M 134 (part Try.f91 1) (f91_p1_7_H x1 x2 x40 x41 x42 x43 x44 x39) (f91_p1_7_x r) (f91_p1_7_s x1 x2 r)
noncomputable def f91_v : (List Int) → G := fun y0 => (.r (.at .unit0))
noncomputable def f91_k0 : (List Int) → List (Nat × Blk) := fun y0 => [(1, (.gr (.int .i64) 3 y0 true))]
noncomputable def f91_k (x1 x2 : Nat) (x3 x4 x5 : Int) (x6 : List Int) : (List Int) → List (Nat × Blk) := fun y0 => [(1, (.gr (.int .i64) 3 y0 true))]
noncomputable def f91_A (x1 x2 : Nat) (x3 x4 x5 : Int) (x6 : List Int) : List G := [(.r (.at (.sl 1 x1 x2))), (GI x3), (GI x4), (GI x5)]
noncomputable def f91_K (x1 x2 : Nat) (x3 x4 x5 : Int) (x6 : List Int) : List (Nat × Blk) := [(1, (.gr (.int .i64) 3 x6 true))]
def f91_C (x1 x2 : Nat) (x3 x4 x5 : Int) (x6 : List Int) (r : (List Int)) : Prop := CallOK cx 91 (f91_A x1 x2 x3 x4 x5 x6) (f91_K x1 x2 x3 x4 x5 x6) [] (f91_v r) (f91_k x1 x2 x3 x4 x5 x6 r)

def f81_M : List Nat := []
noncomputable def f81_v : (List Int) → G := fun y0 => (.r (.at .unit0))
noncomputable def f81_k0 : (List Int) → List (Nat × Blk) := fun y0 => [(1, (.gr (.int .i64) 3 y0 true))]
noncomputable def f81_k (x1 : List Int) : (List Int) → List (Nat × Blk) := fun y0 => [(1, (.gr (.int .i64) 3 y0 true))]
noncomputable def f81_A (x1 : List Int) : List G := [(.r (.at (.sl 1 0 (List.length x1))))]
noncomputable def f81_K (x1 : List Int) : List (Nat × Blk) := [(1, (.gr (.int .i64) 3 x1 true))]
def f81_C (x1 : List Int) (r : (List Int)) : Prop := CallOK cx 81 (f81_A x1) (f81_K x1) [] (f81_v r) (f81_k x1 r)

def f82_M : List Nat := []
noncomputable def f82_p1_H (x1 x2 : Nat) (x9 x10 : Int) (x8 : List Int) : GS := ⟨[(0, (.r (.at (.sl 1 x1 x2)))), (2, (GI x9)), (3, (GI x10))], [(1, (.gr (.int .i64) 3 x8 true))]⟩
noncomputable def f82_p1_x : (List Int) → GExit := fun y0 => (.exit 0)
noncomputable def f82_p1_s (x1 x2 : Nat) : (List Int) → GS := fun y0 => ⟨[], [(1, (.gr (.int .i64) 3 y0 true))]⟩
def f82_p1_P (x1 x2 : Nat) (x9 x10 : Int) (x8 : List Int) (r : (List Int)) : Prop := Lp cx f82_M 28 (part Try.f82 1) (f82_p1_H x1 x2 x9 x10 x8) (f82_p1_x r) (f82_p1_s x1 x2 r)
noncomputable def f82_v : (List Int) → G := fun y0 => (.r (.at .unit0))
noncomputable def f82_k0 : (List Int) → List (Nat × Blk) := fun y0 => [(1, (.gr (.int .i64) 3 y0 true))]
noncomputable def f82_k (x1 x2 : Nat) (x3 : List Int) : (List Int) → List (Nat × Blk) := fun y0 => [(1, (.gr (.int .i64) 3 y0 true))]
noncomputable def f82_A (x1 x2 : Nat) (x3 : List Int) : List G := [(.r (.at (.sl 1 x1 x2)))]
noncomputable def f82_K (x1 x2 : Nat) (x3 : List Int) : List (Nat × Blk) := [(1, (.gr (.int .i64) 3 x3 true))]
def f82_C (x1 x2 : Nat) (x3 : List Int) (r : (List Int)) : Prop := CallOK cx 82 (f82_A x1 x2 x3) (f82_K x1 x2 x3) [] (f82_v r) (f82_k x1 x2 x3 r)

def f53_M : List Nat := [1]
noncomputable def f53_p1_H (x1 : List Int) (x7 x8 : Int) (x6 : List Int) : GS := ⟨[(5, (.r (.at (.sl 1 0 (List.length x6))))), (6, (GI x7)), (11, (.r (.at (.lst (.int .u8) x1 false)))), (12, (.r (.at (.int .i64 ((List.length x1 : Nat) : Int))))), (13, (GI x8))], [(1, (.gr (.int .i64) 3 x6 true))]⟩
noncomputable def f53_p1_x : (List Int) → GExit := fun y0 => (.exit 0)
noncomputable def f53_p1_s (x1 : List Int) : (List Int) → GS := fun y0 => ⟨[(5, (.r (.at (.sl 1 0 (List.length y0)))))], [(1, (.gr (.int .i64) 3 y0 true))]⟩
def f53_p1_P (x1 : List Int) (x7 x8 : Int) (x6 : List Int) (r : (List Int)) : Prop := Lp cx f53_M 37 (part Try.f53 1) (f53_p1_H x1 x7 x8 x6) (f53_p1_x r) (f53_p1_s x1 r)
noncomputable def f53_v : (List Int) → G := fun y0 => (GL y0)
noncomputable def f53_k0 : (List Int) → List (Nat × Blk) := fun y0 => []
noncomputable def f53_k (x1 : List Int) (x2 : Int) : (List Int) → List (Nat × Blk) := fun y0 => []
noncomputable def f53_A (x1 : List Int) (x2 : Int) : List G := [(.r (.at (.lst (.int .u8) x1 false))), (GI x2)]
noncomputable def f53_K (x1 : List Int) (x2 : Int) : List (Nat × Blk) := []
def f53_C (x1 : List Int) (x2 : Int) (r : (List Int)) : Prop := CallOK cx 53 (f53_A x1 x2) (f53_K x1 x2) [] (f53_v r) (f53_k x1 x2 r)

def f57_M : List Nat := []
noncomputable def f57_v : Bool → G := fun y0 => (GB y0)
noncomputable def f57_k0 : Bool → List (Nat × Blk) := fun y0 => []
noncomputable def f57_k (x1 x2 x3 : Int) : Bool → List (Nat × Blk) := fun y0 => []
noncomputable def f57_A (x1 x2 x3 : Int) : List G := [(GI x1), (GI x2), (GI x3)]
noncomputable def f57_K (x1 x2 x3 : Int) : List (Nat × Blk) := []
def f57_C (x1 x2 x3 : Int) (r : Bool) : Prop := CallOK cx 57 (f57_A x1 x2 x3) (f57_K x1 x2 x3) [] (f57_v r) (f57_k x1 x2 x3 r)

def f34_M : List Nat := []
noncomputable def f34_p1_H (x1 : List Int) (x2 x3 x4 : Int) : GS := ⟨[(3, (GI x2)), (4, (GI x3)), (7, (GL x1)), (8, (.r (.at (.int .i64 ((List.length x1 : Nat) : Int))))), (9, (GI x4))], []⟩
noncomputable def f34_p1_x : f34_p1_R → GExit := fun
  | .c0 y0 => .ret
  | .c1 y0 => (.exit 0)
noncomputable def f34_p1_s (x1 : List Int) : f34_p1_R → GS := fun
  | .c0 y0 => ⟨[(2, (GI y0))], []⟩
  | .c1 y0 => ⟨[(4, (GI y0))], []⟩
def f34_p1_P (x1 : List Int) (x2 x3 x4 : Int) (r : f34_p1_R) : Prop := Lp cx f34_M 29 (part Try.f34 1) (f34_p1_H x1 x2 x3 x4) (f34_p1_x r) (f34_p1_s x1 r)
noncomputable def f34_v : Int → G := fun y0 => (GI y0)
noncomputable def f34_k0 : Int → List (Nat × Blk) := fun y0 => []
noncomputable def f34_k (x1 : List Int) : Int → List (Nat × Blk) := fun y0 => []
noncomputable def f34_A (x1 : List Int) : List G := [(GL x1)]
noncomputable def f34_K (x1 : List Int) : List (Nat × Blk) := []
def f34_C (x1 : List Int) (r : Int) : Prop := CallOK cx 34 (f34_A x1) (f34_K x1) [] (f34_v r) (f34_k x1 r)

def f61_M : List Nat := [4]
noncomputable def f61_p4_1_H (x1 x12 : List Int) (x13 : Int) : GS := ⟨[(0, (GL x1)), (3, (.r (.at (.sl 4 0 (List.length x12))))), (4, (GI x13)), (5, (.r (.at (.int .i64 0)))), (16, (.r (.at (.bool (decide (x13 < ((List.length x1 : Nat) : Int)))))))], [(4, (.gr (.int .i64) 3 x12 true))]⟩
noncomputable def f61_p4_1_x : Int → GExit := fun y0 => .normal
noncomputable def f61_p4_1_s (x1 x12 : List Int) (x13 : Int) : Int → GS := fun y0 => ⟨[(0, (GL x1)), (3, (.r (.at (.sl 4 0 (List.length x12))))), (4, (GI x13)), (5, (GI y0))], [(4, (.gr (.int .i64) 3 x12 true))]⟩
def f61_p4_1_P (x1 x12 : List Int) (x13 : Int) (r : Int) : Prop := Ex cx f61_M 36 (part Try.f61 4) (f61_p4_1_H x1 x12 x13) (f61_p4_1_x r) (f61_p4_1_s x1 x12 x13 r)
noncomputable def f61_p6_1_H (x1 : List Int) (x13 x16 : Int) (x15 x18 : Int) (x17 : List Int) : GS := ⟨[(0, (GL x1)), (3, (.r (.at (.sl 4 0 (List.length x17))))), (4, (GI x13)), (27, (.r (.at (.int .i64 (w64 (x16 - x15)))))), (28, (GI x18))], [(4, (.gr (.int .i64) 3 x17 true))]⟩
noncomputable def f61_p6_1_x : (List Int) → GExit := fun y0 => (.exit 2)
noncomputable def f61_p6_1_s (x1 : List Int) (x13 x16 x15 : Int) : (List Int) → GS := fun y0 => ⟨[(0, (GL x1)), (3, (.r (.at (.sl 4 0 (List.length y0))))), (4, (GI x13))], [(4, (.gr (.int .i64) 3 y0 true))]⟩
def f61_p6_1_P (x1 : List Int) (x13 x16 : Int) (x15 x18 : Int) (x17 : List Int) (r : (List Int)) : Prop := Lp cx f61_M 36 (part Try.f61 6) (f61_p6_1_H x1 x13 x16 x15 x18 x17) (f61_p6_1_x r) (f61_p6_1_s x1 x13 x16 x15 r)
noncomputable def f61_p1_H (x1 : List Int) (x13 : Int) (x12 : List Int) : GS := ⟨[(0, (GL x1)), (3, (.r (.at (.sl 4 0 (List.length x12))))), (4, (GI x13))], [(4, (.gr (.int .i64) 3 x12 true))]⟩
noncomputable def f61_p1_x : (List Int) → GExit := fun y0 => (.exit 0)
noncomputable def f61_p1_s (x1 : List Int) : (List Int) → GS := fun y0 => ⟨[(3, (.r (.at (.sl 4 0 (List.length y0)))))], [(4, (.gr (.int .i64) 3 y0 true))]⟩
def f61_p1_P (x1 : List Int) (x13 : Int) (x12 : List Int) (r : (List Int)) : Prop := Lp cx f61_M 36 (part Try.f61 1) (f61_p1_H x1 x13 x12) (f61_p1_x r) (f61_p1_s x1 r)
noncomputable def f61_v : (List Int) → G := fun y0 => (GL y0)
noncomputable def f61_k0 : (List Int) → List (Nat × Blk) := fun y0 => []
noncomputable def f61_k (x1 : List Int) : (List Int) → List (Nat × Blk) := fun y0 => []
noncomputable def f61_A (x1 : List Int) : List G := [(GL x1)]
noncomputable def f61_K (x1 : List Int) : List (Nat × Blk) := []
def f61_C (x1 : List Int) (r : (List Int)) : Prop := CallOK cx 61 (f61_A x1) (f61_K x1) [] (f61_v r) (f61_k x1 r)

def f25_M : List Nat := []
noncomputable def f25_v : ((List Int) × Int) → G := fun (y0, y1) => (.tup [(.at (.lst (.int .i64) y0 false)), (.at (.int .i64 y1))])
noncomputable def f25_k0 : ((List Int) × Int) → List (Nat × Blk) := fun (y0, y1) => []
noncomputable def f25_k (x1 : List Int) : ((List Int) × Int) → List (Nat × Blk) := fun (y0, y1) => []
noncomputable def f25_A (x1 : List Int) : List G := [(GL x1)]
noncomputable def f25_K (x1 : List Int) : List (Nat × Blk) := []
def f25_C (x1 : List Int) (r : (List Int) × Int) : Prop := CallOK cx 25 (f25_A x1) (f25_K x1) [] (f25_v r) (f25_k x1 r)

def f54_M : List Nat := []
noncomputable def f54_p1_H (x1 : List Int) (x2 x3 : Int) : GS := ⟨[(3, (GI x2)), (6, (GL x1)), (7, (.r (.at (.int .i64 ((List.length x1 : Nat) : Int))))), (8, (GI x3))], []⟩
noncomputable def f54_p1_x : Int → GExit := fun y0 => (.exit 0)
noncomputable def f54_p1_s (x1 : List Int) : Int → GS := fun y0 => ⟨[(3, (GI y0))], []⟩
def f54_p1_P (x1 : List Int) (x2 x3 : Int) (r : Int) : Prop := Lp cx f54_M 17 (part Try.f54 1) (f54_p1_H x1 x2 x3) (f54_p1_x r) (f54_p1_s x1 r)
noncomputable def f54_v : Int → G := fun y0 => (GI y0)
noncomputable def f54_k0 : Int → List (Nat × Blk) := fun y0 => []
noncomputable def f54_k (x1 : List Int) : Int → List (Nat × Blk) := fun y0 => []
noncomputable def f54_A (x1 : List Int) : List G := [(GL x1)]
noncomputable def f54_K (x1 : List Int) : List (Nat × Blk) := []
def f54_C (x1 : List Int) (r : Int) : Prop := CallOK cx 54 (f54_A x1) (f54_K x1) [] (f54_v r) (f54_k x1 r)

def f31_M : List Nat := []
noncomputable def f31_p2_H (x1 x2 : List Int) (x3 : Int) : GS := ⟨[(0, (GL x1)), (1, (GL x2)), (5, (GI x3))], []⟩
noncomputable def f31_p2_x : f31_p2_R → GExit := fun
  | .c0 => .ret
  | .c1 => (.exit 0)
noncomputable def f31_p2_s (x1 x2 : List Int) : f31_p2_R → GS := fun
  | .c0 => ⟨[(4, (.r (.at (.bool false))))], []⟩
  | .c1 => ⟨[], []⟩
def f31_p2_P (x1 x2 : List Int) (x3 : Int) (r : f31_p2_R) : Prop := Lp cx f31_M 26 (part Try.f31 2) (f31_p2_H x1 x2 x3) (f31_p2_x r) (f31_p2_s x1 x2 r)
noncomputable def f31_v : Bool → G := fun y0 => (GB y0)
noncomputable def f31_k0 : Bool → List (Nat × Blk) := fun y0 => []
noncomputable def f31_k (x1 x2 : List Int) : Bool → List (Nat × Blk) := fun y0 => []
noncomputable def f31_A (x1 x2 : List Int) : List G := [(GL x1), (GL x2)]
noncomputable def f31_K (x1 x2 : List Int) : List (Nat × Blk) := []
def f31_C (x1 x2 : List Int) (r : Bool) : Prop := CallOK cx 31 (f31_A x1 x2) (f31_K x1 x2) [] (f31_v r) (f31_k x1 x2 r)

def f84_M : List Nat := []
def f83_M : List Nat := [14]
def f58_M : List Nat := [10, 11, 12]
noncomputable def f84_v : (Int × (List (Option Int))) → G := fun (y0, y1) => (GI y0)
noncomputable def f84_k0 : (Int × (List (Option Int))) → List (Nat × Blk) := fun (y0, y1) => [(9, (.var [.arr (.opt (.int .i64)) 961 y1]))]
noncomputable def f84_k (x1 : List (Option Int)) (x2 x3 : Int) : (Int × (List (Option Int))) → List (Nat × Blk) := fun (y0, y1) => [(9, (.var [.arr (.opt (.int .i64)) 961 y1])), (10, (.var [.cell (.ptr 9 0 0)])), (11, (.var [.cell (.int .i64 x2)])), (12, (.var [.cell (.int .i64 x3)]))]
noncomputable def f84_A (x1 : List (Option Int)) (x2 x3 : Int) : List G := [(.r (.at (.ptr 10 0 0))), (.r (.at (.ptr 11 0 0))), (.r (.at (.ptr 12 0 0)))]
noncomputable def f84_K (x1 : List (Option Int)) (x2 x3 : Int) : List (Nat × Blk) := [(9, (.var [.arr (.opt (.int .i64)) 961 x1])), (10, (.var [.cell (.ptr 9 0 0)])), (11, (.var [.cell (.int .i64 x2)])), (12, (.var [.cell (.int .i64 x3)]))]
def f84_C (x1 : List (Option Int)) (x2 x3 : Int) (r : Int × (List (Option Int))) : Prop := CallOK cx 84 (f84_A x1 x2 x3) (f84_K x1 x2 x3) [] (f84_v r) (f84_k x1 x2 x3 r)
noncomputable def f83_v : (Int × (List (Option Int))) → G := fun (y0, y1) => (GI y0)
noncomputable def f83_k0 : (Int × (List (Option Int))) → List (Nat × Blk) := fun (y0, y1) => [(9, (.var [.arr (.opt (.int .i64)) 961 y1]))]
noncomputable def f83_k (x1 x2 : Int) (x3 : List (Option Int)) (x4 x5 : Int) : (Int × (List (Option Int))) → List (Nat × Blk) := fun (y0, y1) => [(9, (.var [.arr (.opt (.int .i64)) 961 y1])), (10, (.var [.cell (.ptr 9 0 0)])), (11, (.var [.cell (.int .i64 x4)])), (12, (.var [.cell (.int .i64 x5)]))]
noncomputable def f83_A (x1 x2 : Int) (x3 : List (Option Int)) (x4 x5 : Int) : List G := [(.r (.at (.ptr 9 0 0))), (GI x1), (GI x2), (.r (.at (.app2 (.app2 (.app2 (.fn 84) (.ptr 10 0 0)) (.ptr 11 0 0)) (.ptr 12 0 0))))]
noncomputable def f83_K (x1 x2 : Int) (x3 : List (Option Int)) (x4 x5 : Int) : List (Nat × Blk) := [(9, (.var [.arr (.opt (.int .i64)) 961 x3])), (10, (.var [.cell (.ptr 9 0 0)])), (11, (.var [.cell (.int .i64 x4)])), (12, (.var [.cell (.int .i64 x5)]))]
def f83_C (x1 x2 : Int) (x3 : List (Option Int)) (x4 x5 : Int) (r : Int × (List (Option Int))) : Prop := CallOK cx 83 (f83_A x1 x2 x3 x4 x5) (f83_K x1 x2 x3 x4 x5) [] (f83_v r) (f83_k x1 x2 x3 x4 x5 r)
noncomputable def f58_v : (Int × (List (Option Int))) → G := fun (y0, y1) => (GI y0)
noncomputable def f58_k0 : (Int × (List (Option Int))) → List (Nat × Blk) := fun (y0, y1) => [(9, (.var [.arr (.opt (.int .i64)) 961 y1]))]
noncomputable def f58_k (x1 x2 : Int) (x3 : List (Option Int)) : (Int × (List (Option Int))) → List (Nat × Blk) := fun (y0, y1) => [(9, (.var [.arr (.opt (.int .i64)) 961 y1]))]
noncomputable def f58_A (x1 x2 : Int) (x3 : List (Option Int)) : List G := [(.r (.at (.ptr 9 0 0))), (GI x1), (GI x2)]
noncomputable def f58_K (x1 x2 : Int) (x3 : List (Option Int)) : List (Nat × Blk) := [(9, (.var [.arr (.opt (.int .i64)) 961 x3]))]
def f58_C (x1 x2 : Int) (x3 : List (Option Int)) (r : Int × (List (Option Int))) : Prop := CallOK cx 58 (f58_A x1 x2 x3) (f58_K x1 x2 x3) [] (f58_v r) (f58_k x1 x2 x3 r)

def f17_M : List Nat := [9]
noncomputable def f17_v : (Int × Int) → G := fun (y0, y1) => (.tup [(.at (.int .i64 y0)), (.at (.int .i64 y1))])
noncomputable def f17_k0 : (Int × Int) → List (Nat × Blk) := fun (y0, y1) => []
noncomputable def f17_k (x1 x2 : Int) : (Int × Int) → List (Nat × Blk) := fun (y0, y1) => []
noncomputable def f17_A (x1 x2 : Int) : List G := [(GI x1), (GI x2)]
noncomputable def f17_K (x1 x2 : Int) : List (Nat × Blk) := []
def f17_C (x1 x2 : Int) (r : Int × Int) : Prop := CallOK cx 17 (f17_A x1 x2) (f17_K x1 x2) [] (f17_v r) (f17_k x1 x2 r)

def f52_M : List Nat := []
noncomputable def f52_v : (List Int) → G := fun y0 => (GL y0)
noncomputable def f52_k0 : (List Int) → List (Nat × Blk) := fun y0 => []
noncomputable def f52_k (x1 : List Int) : (List Int) → List (Nat × Blk) := fun y0 => []
noncomputable def f52_A (x1 : List Int) : List G := [(GL x1)]
noncomputable def f52_K (x1 : List Int) : List (Nat × Blk) := []
def f52_C (x1 : List Int) (r : (List Int)) : Prop := CallOK cx 52 (f52_A x1) (f52_K x1) [] (f52_v r) (f52_k x1 r)

def f15_M : List Nat := []
noncomputable def f15_v : (Int × Int) → G := fun (y0, y1) => (.tup [(.at (.int .i64 y0)), (.at (.int .i64 y1))])
noncomputable def f15_k0 : (Int × Int) → List (Nat × Blk) := fun (y0, y1) => []
noncomputable def f15_k (x1 : Int) : (Int × Int) → List (Nat × Blk) := fun (y0, y1) => []
noncomputable def f15_A (x1 : Int) : List G := [(GI x1)]
noncomputable def f15_K (x1 : Int) : List (Nat × Blk) := []
def f15_C (x1 : Int) (r : Int × Int) : Prop := CallOK cx 15 (f15_A x1) (f15_K x1) [] (f15_v r) (f15_k x1 r)

def f20_M : List Nat := [15]
noncomputable def f20_p6_1_H (x1 x13 x18 : Int) (x17 : List Int) : GS := ⟨[(0, (GI x1)), (4, (.r (.at (.sl 15 0 (Int.toNat (w64 (x1 + 1))))))), (5, (GI x13)), (6, (GI x18))], [(15, (.gr (.int .i64) 3 x17 true))]⟩
noncomputable def f20_p6_1_x : (List Int) → GExit := fun y0 => (.exit 2)
noncomputable def f20_p6_1_s (x1 x13 : Int) : (List Int) → GS := fun y0 => ⟨[(0, (GI x1)), (4, (.r (.at (.sl 15 0 (Int.toNat (w64 (x1 + 1))))))), (5, (GI x13))], [(15, (.gr (.int .i64) 3 y0 true))]⟩
def f20_p6_1_P (x1 x13 x18 : Int) (x17 : List Int) (r : (List Int)) : Prop := Lp cx f20_M 42 (part Try.f20 6) (f20_p6_1_H x1 x13 x18 x17) (f20_p6_1_x r) (f20_p6_1_s x1 x13 r)
noncomputable def f20_p2_H (x1 x13 : Int) (x12 : List Int) : GS := ⟨[(0, (GI x1)), (4, (.r (.at (.sl 15 0 (Int.toNat (w64 (x1 + 1))))))), (5, (GI x13))], [(15, (.gr (.int .i64) 3 x12 true))]⟩
noncomputable def f20_p2_x : (List Int) → GExit := fun y0 => (.exit 0)
noncomputable def f20_p2_s (x1 : Int) : (List Int) → GS := fun y0 => ⟨[(0, (GI x1)), (4, (.r (.at (.sl 15 0 (Int.toNat (w64 (x1 + 1)))))))], [(15, (.gr (.int .i64) 3 y0 true))]⟩
def f20_p2_P (x1 x13 : Int) (x12 : List Int) (r : (List Int)) : Prop := Lp cx f20_M 42 (part Try.f20 2) (f20_p2_H x1 x13 x12) (f20_p2_x r) (f20_p2_s x1 r)
noncomputable def f20_v : (Int × Int) → G := fun (y0, y1) => (.tup [(.at (.int .i64 y0)), (.at (.int .i64 y1))])
noncomputable def f20_k0 : (Int × Int) → List (Nat × Blk) := fun (y0, y1) => []
noncomputable def f20_k (x1 : Int) : (Int × Int) → List (Nat × Blk) := fun (y0, y1) => []
noncomputable def f20_A (x1 : Int) : List G := [(GI x1)]
noncomputable def f20_K (x1 : Int) : List (Nat × Blk) := []
def f20_C (x1 : Int) (r : Int × Int) : Prop := CallOK cx 20 (f20_A x1) (f20_K x1) [] (f20_v r) (f20_k x1 r)

def f22_M : List Nat := []
noncomputable def f22_p2_H (x1 x3 : Int) : GS := ⟨[(0, (GI x1)), (9, (GI x3))], []⟩
noncomputable def f22_p2_x : f22_p2_R → GExit := fun
  | .c0 y0 => .ret
  | .c1 => (.exit 0)
noncomputable def f22_p2_s (x1 : Int) : f22_p2_R → GS := fun
  | .c0 y0 => ⟨[(2, (GI y0)), (3, (.r (.at (.int .i64 0))))], []⟩
  | .c1 => ⟨[], []⟩
def f22_p2_P (x1 x3 : Int) (r : f22_p2_R) : Prop := Lp cx f22_M 33 (part Try.f22 2) (f22_p2_H x1 x3) (f22_p2_x r) (f22_p2_s x1 r)
noncomputable def f22_v : (Int × Int) → G := fun (y0, y1) => (.tup [(.at (.int .i64 y0)), (.at (.int .i64 y1))])
noncomputable def f22_k0 : (Int × Int) → List (Nat × Blk) := fun (y0, y1) => []
noncomputable def f22_k (x1 : Int) : (Int × Int) → List (Nat × Blk) := fun (y0, y1) => []
noncomputable def f22_A (x1 : Int) : List G := [(GI x1)]
noncomputable def f22_K (x1 : Int) : List (Nat × Blk) := []
def f22_C (x1 : Int) (r : Int × Int) : Prop := CallOK cx 22 (f22_A x1) (f22_K x1) [] (f22_v r) (f22_k x1 r)

def f72_M : List Nat := []
noncomputable def f72_p1_H (x1 : List Int) (x2 x3 : Int) : GS := ⟨[(3, (GI x2)), (6, (GL x1)), (7, (.r (.at (.int .i64 ((List.length x1 : Nat) : Int))))), (8, (GI x3))], []⟩
noncomputable def f72_p1_x : Int → GExit := fun y0 => (.exit 0)
noncomputable def f72_p1_s (x1 : List Int) : Int → GS := fun y0 => ⟨[(3, (GI y0))], []⟩
def f72_p1_P (x1 : List Int) (x2 x3 : Int) (r : Int) : Prop := Lp cx f72_M 17 (part Try.f72 1) (f72_p1_H x1 x2 x3) (f72_p1_x r) (f72_p1_s x1 r)
noncomputable def f72_v : Int → G := fun y0 => (GI y0)
noncomputable def f72_k0 : Int → List (Nat × Blk) := fun y0 => []
noncomputable def f72_k (x1 : List Int) : Int → List (Nat × Blk) := fun y0 => []
noncomputable def f72_A (x1 : List Int) : List G := [(GL x1)]
noncomputable def f72_K (x1 : List Int) : List (Nat × Blk) := []
def f72_C (x1 : List Int) (r : Int) : Prop := CallOK cx 72 (f72_A x1) (f72_K x1) [] (f72_v r) (f72_k x1 r)

def f84_1_M : List Nat := []
def f83_1_M : List Nat := [21]
def f58_1_M : List Nat := [17, 18, 19]
noncomputable def f84_1_v : (Int × (List (Option Int))) → G := fun (y0, y1) => (GI y0)
noncomputable def f84_1_k0 : (Int × (List (Option Int))) → List (Nat × Blk) := fun (y0, y1) => [(16, (.var [.arr (.opt (.int .i64)) 961 y1]))]
noncomputable def f84_1_k (x1 : List (Option Int)) (x2 x3 : Int) : (Int × (List (Option Int))) → List (Nat × Blk) := fun (y0, y1) => [(16, (.var [.arr (.opt (.int .i64)) 961 y1])), (17, (.var [.cell (.ptr 16 0 0)])), (18, (.var [.cell (.int .i64 x2)])), (19, (.var [.cell (.int .i64 x3)]))]
noncomputable def f84_1_A (x1 : List (Option Int)) (x2 x3 : Int) : List G := [(.r (.at (.ptr 17 0 0))), (.r (.at (.ptr 18 0 0))), (.r (.at (.ptr 19 0 0)))]
noncomputable def f84_1_K (x1 : List (Option Int)) (x2 x3 : Int) : List (Nat × Blk) := [(16, (.var [.arr (.opt (.int .i64)) 961 x1])), (17, (.var [.cell (.ptr 16 0 0)])), (18, (.var [.cell (.int .i64 x2)])), (19, (.var [.cell (.int .i64 x3)]))]
def f84_1_C (x1 : List (Option Int)) (x2 x3 : Int) (r : Int × (List (Option Int))) : Prop := CallOK cx 84 (f84_1_A x1 x2 x3) (f84_1_K x1 x2 x3) [] (f84_1_v r) (f84_1_k x1 x2 x3 r)
noncomputable def f83_1_v : (Int × (List (Option Int))) → G := fun (y0, y1) => (GI y0)
noncomputable def f83_1_k0 : (Int × (List (Option Int))) → List (Nat × Blk) := fun (y0, y1) => [(16, (.var [.arr (.opt (.int .i64)) 961 y1]))]
noncomputable def f83_1_k (x1 x2 : Int) (x3 : List (Option Int)) (x4 x5 : Int) : (Int × (List (Option Int))) → List (Nat × Blk) := fun (y0, y1) => [(16, (.var [.arr (.opt (.int .i64)) 961 y1])), (17, (.var [.cell (.ptr 16 0 0)])), (18, (.var [.cell (.int .i64 x4)])), (19, (.var [.cell (.int .i64 x5)]))]
noncomputable def f83_1_A (x1 x2 : Int) (x3 : List (Option Int)) (x4 x5 : Int) : List G := [(.r (.at (.ptr 16 0 0))), (GI x1), (GI x2), (.r (.at (.app2 (.app2 (.app2 (.fn 84) (.ptr 17 0 0)) (.ptr 18 0 0)) (.ptr 19 0 0))))]
noncomputable def f83_1_K (x1 x2 : Int) (x3 : List (Option Int)) (x4 x5 : Int) : List (Nat × Blk) := [(16, (.var [.arr (.opt (.int .i64)) 961 x3])), (17, (.var [.cell (.ptr 16 0 0)])), (18, (.var [.cell (.int .i64 x4)])), (19, (.var [.cell (.int .i64 x5)]))]
def f83_1_C (x1 x2 : Int) (x3 : List (Option Int)) (x4 x5 : Int) (r : Int × (List (Option Int))) : Prop := CallOK cx 83 (f83_1_A x1 x2 x3 x4 x5) (f83_1_K x1 x2 x3 x4 x5) [] (f83_1_v r) (f83_1_k x1 x2 x3 x4 x5 r)
noncomputable def f58_1_v : (Int × (List (Option Int))) → G := fun (y0, y1) => (GI y0)
noncomputable def f58_1_k0 : (Int × (List (Option Int))) → List (Nat × Blk) := fun (y0, y1) => [(16, (.var [.arr (.opt (.int .i64)) 961 y1]))]
noncomputable def f58_1_k (x1 x2 : Int) (x3 : List (Option Int)) : (Int × (List (Option Int))) → List (Nat × Blk) := fun (y0, y1) => [(16, (.var [.arr (.opt (.int .i64)) 961 y1]))]
noncomputable def f58_1_A (x1 x2 : Int) (x3 : List (Option Int)) : List G := [(.r (.at (.ptr 16 0 0))), (GI x1), (GI x2)]
noncomputable def f58_1_K (x1 x2 : Int) (x3 : List (Option Int)) : List (Nat × Blk) := [(16, (.var [.arr (.opt (.int .i64)) 961 x3]))]
def f58_1_C (x1 x2 : Int) (x3 : List (Option Int)) (r : Int × (List (Option Int))) : Prop := CallOK cx 58 (f58_1_A x1 x2 x3) (f58_1_K x1 x2 x3) [] (f58_1_v r) (f58_1_k x1 x2 x3 r)

def f36_M : List Nat := [16]
noncomputable def f36_p2_H (x1 : List Int) (x10 x11 x12 : Int) (x13 : List (Option Int)) : GS := ⟨[(5, (.r (.at (.ptr 16 0 0)))), (6, (GI x10)), (7, (GI x11)), (18, (GL x1)), (19, (.r (.at (.int .i64 ((List.length x1 : Nat) : Int))))), (20, (GI x12))], [(16, (.var [.arr (.opt (.int .i64)) 961 x13]))]⟩
noncomputable def f36_p2_x : Int → GExit := fun y0 => (.exit 0)
noncomputable def f36_p2_s (x1 : List Int) : Int → GS := fun y0 => ⟨[(7, (GI y0))], []⟩
def f36_p2_P (x1 : List Int) (x10 x11 x12 : Int) (x13 : List (Option Int)) (r : Int) : Prop := Lp cx f36_M 36 (part Try.f36 2) (f36_p2_H x1 x10 x11 x12 x13) (f36_p2_x r) (f36_p2_s x1 r)
noncomputable def f36_v : (Int × Int) → G := fun (y0, y1) => (.tup [(.at (.int .i64 y0)), (.at (.int .i64 y1))])
noncomputable def f36_k0 : (Int × Int) → List (Nat × Blk) := fun (y0, y1) => []
noncomputable def f36_k (x1 : List Int) : (Int × Int) → List (Nat × Blk) := fun (y0, y1) => []
noncomputable def f36_A (x1 : List Int) : List G := [(GL x1)]
noncomputable def f36_K (x1 : List Int) : List (Nat × Blk) := []
def f36_C (x1 : List Int) (r : Int × Int) : Prop := CallOK cx 36 (f36_A x1) (f36_K x1) [] (f36_v r) (f36_k x1 r)

def f84_2_M : List Nat := []
def f83_2_M : List Nat := [27]
def f58_2_M : List Nat := [23, 24, 25]
noncomputable def f84_2_v : (Int × (List (Option Int))) → G := fun (y0, y1) => (GI y0)
noncomputable def f84_2_k0 : (Int × (List (Option Int))) → List (Nat × Blk) := fun (y0, y1) => [(22, (.var [.arr (.opt (.int .i64)) 961 y1]))]
noncomputable def f84_2_k (x1 : List (Option Int)) (x2 x3 : Int) : (Int × (List (Option Int))) → List (Nat × Blk) := fun (y0, y1) => [(22, (.var [.arr (.opt (.int .i64)) 961 y1])), (23, (.var [.cell (.ptr 22 0 0)])), (24, (.var [.cell (.int .i64 x2)])), (25, (.var [.cell (.int .i64 x3)]))]
noncomputable def f84_2_A (x1 : List (Option Int)) (x2 x3 : Int) : List G := [(.r (.at (.ptr 23 0 0))), (.r (.at (.ptr 24 0 0))), (.r (.at (.ptr 25 0 0)))]
noncomputable def f84_2_K (x1 : List (Option Int)) (x2 x3 : Int) : List (Nat × Blk) := [(22, (.var [.arr (.opt (.int .i64)) 961 x1])), (23, (.var [.cell (.ptr 22 0 0)])), (24, (.var [.cell (.int .i64 x2)])), (25, (.var [.cell (.int .i64 x3)]))]
def f84_2_C (x1 : List (Option Int)) (x2 x3 : Int) (r : Int × (List (Option Int))) : Prop := CallOK cx 84 (f84_2_A x1 x2 x3) (f84_2_K x1 x2 x3) [] (f84_2_v r) (f84_2_k x1 x2 x3 r)
noncomputable def f83_2_v : (Int × (List (Option Int))) → G := fun (y0, y1) => (GI y0)
noncomputable def f83_2_k0 : (Int × (List (Option Int))) → List (Nat × Blk) := fun (y0, y1) => [(22, (.var [.arr (.opt (.int .i64)) 961 y1]))]
noncomputable def f83_2_k (x1 x2 : Int) (x3 : List (Option Int)) (x4 x5 : Int) : (Int × (List (Option Int))) → List (Nat × Blk) := fun (y0, y1) => [(22, (.var [.arr (.opt (.int .i64)) 961 y1])), (23, (.var [.cell (.ptr 22 0 0)])), (24, (.var [.cell (.int .i64 x4)])), (25, (.var [.cell (.int .i64 x5)]))]
noncomputable def f83_2_A (x1 x2 : Int) (x3 : List (Option Int)) (x4 x5 : Int) : List G := [(.r (.at (.ptr 22 0 0))), (GI x1), (GI x2), (.r (.at (.app2 (.app2 (.app2 (.fn 84) (.ptr 23 0 0)) (.ptr 24 0 0)) (.ptr 25 0 0))))]
noncomputable def f83_2_K (x1 x2 : Int) (x3 : List (Option Int)) (x4 x5 : Int) : List (Nat × Blk) := [(22, (.var [.arr (.opt (.int .i64)) 961 x3])), (23, (.var [.cell (.ptr 22 0 0)])), (24, (.var [.cell (.int .i64 x4)])), (25, (.var [.cell (.int .i64 x5)]))]
def f83_2_C (x1 x2 : Int) (x3 : List (Option Int)) (x4 x5 : Int) (r : Int × (List (Option Int))) : Prop := CallOK cx 83 (f83_2_A x1 x2 x3 x4 x5) (f83_2_K x1 x2 x3 x4 x5) [] (f83_2_v r) (f83_2_k x1 x2 x3 x4 x5 r)
noncomputable def f58_2_v : (Int × (List (Option Int))) → G := fun (y0, y1) => (GI y0)
noncomputable def f58_2_k0 : (Int × (List (Option Int))) → List (Nat × Blk) := fun (y0, y1) => [(22, (.var [.arr (.opt (.int .i64)) 961 y1]))]
noncomputable def f58_2_k (x1 x2 : Int) (x3 : List (Option Int)) : (Int × (List (Option Int))) → List (Nat × Blk) := fun (y0, y1) => [(22, (.var [.arr (.opt (.int .i64)) 961 y1]))]
noncomputable def f58_2_A (x1 x2 : Int) (x3 : List (Option Int)) : List G := [(.r (.at (.ptr 22 0 0))), (GI x1), (GI x2)]
noncomputable def f58_2_K (x1 x2 : Int) (x3 : List (Option Int)) : List (Nat × Blk) := [(22, (.var [.arr (.opt (.int .i64)) 961 x3]))]
def f58_2_C (x1 x2 : Int) (x3 : List (Option Int)) (r : Int × (List (Option Int))) : Prop := CallOK cx 58 (f58_2_A x1 x2 x3) (f58_2_K x1 x2 x3) [] (f58_2_v r) (f58_2_k x1 x2 x3 r)

def f38_M : List Nat := [22, 28]
noncomputable def f38_p8_2_H (x36 x37 : Int) (x35 : List Int) (x42 : Int) (x43 : List (Option Int)) : GS := ⟨[(0, (GI x36)), (1, (GI x37)), (8, (.r (.at (.ptr 22 0 0)))), (9, (.r (.at (.sl 28 0 (List.length x35))))), (10, (GI x42))], [(22, (.var [.arr (.opt (.int .i64)) 961 x43])), (28, (.gr (.int .i64) 3 x35 true))]⟩
noncomputable def f38_p8_2_x : (Int × (List (Option Int))) → GExit := fun (y0, y1) => (.exit 3)
noncomputable def f38_p8_2_s (x36 x37 : Int) (x35 : List Int) : (Int × (List (Option Int))) → GS := fun (y0, y1) => ⟨[(0, (GI x36)), (1, (GI x37)), (8, (.r (.at (.ptr 22 0 0)))), (9, (.r (.at (.sl 28 0 (List.length x35))))), (10, (GI y0))], [(22, (.var [.arr (.opt (.int .i64)) 961 y1])), (28, (.gr (.int .i64) 3 x35 true))]⟩
def f38_p8_2_P (x36 x37 : Int) (x35 : List Int) (x42 : Int) (x43 : List (Option Int)) (r : Int × (List (Option Int))) : Prop := Lp cx f38_M 53 (part Try.f38 8) (f38_p8_2_H x36 x37 x35 x42 x43) (f38_p8_2_x r) (f38_p8_2_s x36 x37 x35 r)
noncomputable def f38_p4_H (x36 x37 : Int) (x38 : List (Option Int)) (x35 : List Int) : GS := ⟨[(0, (GI x36)), (1, (GI x37)), (8, (.r (.at (.ptr 22 0 0)))), (9, (.r (.at (.sl 28 0 (List.length x35)))))], [(22, (.var [.arr (.opt (.int .i64)) 961 x38])), (28, (.gr (.int .i64) 3 x35 true))]⟩
noncomputable def f38_p4_x : (List Int) → GExit := fun y0 => (.exit 1)
noncomputable def f38_p4_s : (List Int) → GS := fun y0 => ⟨[(9, (.r (.at (.sl 28 0 (List.length y0)))))], [(28, (.gr (.int .i64) 3 y0 true))]⟩
def f38_p4_P (x36 x37 : Int) (x38 : List (Option Int)) (x35 : List Int) (r : (List Int)) : Prop := Lp cx f38_M 53 (part Try.f38 4) (f38_p4_H x36 x37 x38 x35) (f38_p4_x r) (f38_p4_s r)
noncomputable def f38_v : ((List Int) × Int) → G := fun (y0, y1) => (.tup [(.at (.lst (.int .i64) y0 false)), (.at (.int .i64 y1))])
noncomputable def f38_k0 : ((List Int) × Int) → List (Nat × Blk) := fun (y0, y1) => []
noncomputable def f38_k (x1 x2 : Int) : ((List Int) × Int) → List (Nat × Blk) := fun (y0, y1) => []
noncomputable def f38_A (x1 x2 : Int) : List G := [(GI x1), (GI x2)]
noncomputable def f38_K (x1 x2 : Int) : List (Nat × Blk) := []
def f38_C (x1 x2 : Int) (r : (List Int) × Int) : Prop := CallOK cx 38 (f38_A x1 x2) (f38_K x1 x2) [] (f38_v r) (f38_k x1 x2 r)

def f64_M : List Nat := []
noncomputable def f64_v : Bool → G := fun y0 => (GB y0)
noncomputable def f64_k0 : Bool → List (Nat × Blk) := fun y0 => []
noncomputable def f64_k (x1 : Int) : Bool → List (Nat × Blk) := fun y0 => []
noncomputable def f64_A (x1 : Int) : List G := [(GI x1)]
noncomputable def f64_K (x1 : Int) : List (Nat × Blk) := []
def f64_C (x1 : Int) (r : Bool) : Prop := CallOK cx 64 (f64_A x1) (f64_K x1) [] (f64_v r) (f64_k x1 r)

def f85_M : List Nat := []
noncomputable def f85_p1_H (x1 : List Int) (x2 : Int) : GS := ⟨[(0, (GL x1)), (1, (.r (.at (.fn 64)))), (7, (.r (.at (.int .i64 ((List.length x1 : Nat) : Int))))), (8, (GI x2))], []⟩
noncomputable def f85_p1_x : f85_p1_R → GExit := fun
  | .c0 y0 => .ret
  | .c1 => (.exit 0)
noncomputable def f85_p1_s (x1 : List Int) : f85_p1_R → GS := fun
  | .c0 y0 => ⟨[(4, (GI y0))], []⟩
  | .c1 => ⟨[], []⟩
def f85_p1_P (x1 : List Int) (x2 : Int) (r : f85_p1_R) : Prop := Lp cx f85_M 19 (part Try.f85 1) (f85_p1_H x1 x2) (f85_p1_x r) (f85_p1_s x1 r)
noncomputable def f85_v : Int → G := fun y0 => (GI y0)
noncomputable def f85_k0 : Int → List (Nat × Blk) := fun y0 => []
noncomputable def f85_k (x1 : List Int) : Int → List (Nat × Blk) := fun y0 => []
noncomputable def f85_A (x1 : List Int) : List G := [(GL x1), (.r (.at (.fn 64)))]
noncomputable def f85_K (x1 : List Int) : List (Nat × Blk) := []
def f85_C (x1 : List Int) (r : Int) : Prop := CallOK cx 85 (f85_A x1) (f85_K x1) [] (f85_v r) (f85_k x1 r)

def f63_M : List Nat := []
noncomputable def f63_v : Bool → G := fun y0 => (GB y0)
noncomputable def f63_k0 : Bool → List (Nat × Blk) := fun y0 => []
noncomputable def f63_k (x1 : List Int) : Bool → List (Nat × Blk) := fun y0 => []
noncomputable def f63_A (x1 : List Int) : List G := [(GL x1), (.r (.at (.fn 64)))]
noncomputable def f63_K (x1 : List Int) : List (Nat × Blk) := []
def f63_C (x1 : List Int) (r : Bool) : Prop := CallOK cx 63 (f63_A x1) (f63_K x1) [] (f63_v r) (f63_k x1 r)

def f87_M : List Nat := []
noncomputable def f87_v : Int → G := fun y0 => (GI y0)
noncomputable def f87_k0 : Int → List (Nat × Blk) := fun y0 => []
noncomputable def f87_k (x1 x2 : Int) : Int → List (Nat × Blk) := fun y0 => []
noncomputable def f87_A (x1 x2 : Int) : List G := [(GI x1), (GI x2)]
noncomputable def f87_K (x1 x2 : Int) : List (Nat × Blk) := []
def f87_C (x1 x2 : Int) (r : Int) : Prop := CallOK cx 87 (f87_A x1 x2) (f87_K x1 x2) [] (f87_v r) (f87_k x1 x2 r)

def f107_M : List Nat := []
noncomputable def f107_p5_2_H (x3 : List Int) (x1 x2 : Int) (x38 x44 : Int) (x43 : List Int) : GS := ⟨[(0, (.r (.at (.sl 30 0 (List.length x3))))), (1, (GI x1)), (2, (GI x2)), (3, (.r (.at (.fn 87)))), (8, (GI x38)), (9, (GI x44))], [(30, (.gr (.int .i64) 3 x43 true))]⟩
noncomputable def f107_p5_2_x : (List Int) → GExit := fun y0 => (.exit 2)
noncomputable def f107_p5_2_s (x3 : List Int) (x1 x2 x38 : Int) : (List Int) → GS := fun y0 => ⟨[(0, (.r (.at (.sl 30 0 (List.length x3))))), (1, (GI x1)), (2, (GI x2)), (3, (.r (.at (.fn 87)))), (8, (GI x38))], [(30, (.gr (.int .i64) 3 y0 true))]⟩
def f107_p5_2_P (x3 : List Int) (x1 x2 : Int) (x38 x44 : Int) (x43 : List Int) (r : (List Int)) : Prop := Lp cx f107_M 53 (part Try.f107 5) (f107_p5_2_H x3 x1 x2 x38 x44 x43) (f107_p5_2_x r) (f107_p5_2_s x3 x1 x2 x38 r)
noncomputable def f107_p1_H (x3 : List Int) (x1 x2 x38 : Int) (x37 : List Int) : GS := ⟨[(0, (.r (.at (.sl 30 0 (List.length x3))))), (1, (GI x1)), (2, (GI x2)), (3, (.r (.at (.fn 87)))), (8, (GI x38))], [(30, (.gr (.int .i64) 3 x37 true))]⟩
noncomputable def f107_p1_x : (List Int) → GExit := fun y0 => (.exit 0)
noncomputable def f107_p1_s (x3 : List Int) (x1 x2 : Int) : (List Int) → GS := fun y0 => ⟨[], [(30, (.gr (.int .i64) 3 y0 true))]⟩
def f107_p1_P (x3 : List Int) (x1 x2 x38 : Int) (x37 : List Int) (r : (List Int)) : Prop := Lp cx f107_M 53 (part Try.f107 1) (f107_p1_H x3 x1 x2 x38 x37) (f107_p1_x r) (f107_p1_s x3 x1 x2 r)
noncomputable def f107_v : (List Int) → G := fun y0 => (.r (.at .unit0))
noncomputable def f107_k0 : (List Int) → List (Nat × Blk) := fun y0 => [(30, (.gr (.int .i64) 3 y0 true))]
noncomputable def f107_k (x1 x2 : Int) (x3 : List Int) : (List Int) → List (Nat × Blk) := fun y0 => [(30, (.gr (.int .i64) 3 y0 true))]
noncomputable def f107_A (x1 x2 : Int) (x3 : List Int) : List G := [(.r (.at (.sl 30 0 (List.length x3)))), (GI x1), (GI x2), (.r (.at (.fn 87)))]
noncomputable def f107_K (x1 x2 : Int) (x3 : List Int) : List (Nat × Blk) := [(30, (.gr (.int .i64) 3 x3 true))]
def f107_C (x1 x2 : Int) (x3 : List Int) (r : (List Int)) : Prop := CallOK cx 107 (f107_A x1 x2 x3) (f107_K x1 x2 x3) [] (f107_v r) (f107_k x1 x2 x3 r)

def f93_M : List Nat := []
noncomputable def f93_p5_1_H (x11 : List Int) (x12 x13 x14 : Int) (x15 x16 : Bool) : GS := ⟨[(0, (.r (.at (.sl 30 0 (List.length x11))))), (1, (GI x12)), (2, (GI x13)), (3, (GI x14)), (4, (.r (.at (.fn 87)))), (10, (GB x15)), (11, (GB x16)), (12, (.r (.at (.int .i64 (w64 (x13 - x12)))))), (39, (.r (.at (.bool (!x15)))))], [(30, (.gr (.int .i64) 3 x11 true))]⟩
noncomputable def f93_p5_1_x : Unit → GExit := fun _ => .normal
noncomputable def f93_p5_1_s (x11 : List Int) (x12 x13 x14 : Int) (x15 x16 : Bool) : Unit → GS := fun _ => ⟨[(0, (.r (.at (.sl 30 0 (List.length x11))))), (1, (GI x12)), (2, (GI x13)), (3, (GI x14)), (4, (.r (.at (.fn 87)))), (10, (GB x15)), (11, (GB x16)), (12, (.r (.at (.int .i64 (w64 (x13 - x12))))))], [(30, (.gr (.int .i64) 3 x11 true))]⟩
def f93_p5_1_P (x11 : List Int) (x12 x13 x14 : Int) (x15 x16 : Bool) (r : Unit) : Prop := Ex cx f93_M 148 (part Try.f93 5) (f93_p5_1_H x11 x12 x13 x14 x15 x16) (f93_p5_1_x r) (f93_p5_1_s x11 x12 x13 x14 x15 x16 r)
noncomputable def f93_p1_H (x12 x13 x14 : Int) (x15 x16 : Bool) (x11 : List Int) : GS := ⟨[(0, (.r (.at (.sl 30 0 (List.length x11))))), (1, (GI x12)), (2, (GI x13)), (3, (GI x14)), (4, (.r (.at (.fn 87)))), (10, (GB x15)), (11, (GB x16))], [(30, (.gr (.int .i64) 3 x11 true))]⟩
noncomputable def f93_p1_x : (List Int) → GExit := fun y0 => .ret
noncomputable def f93_p1_s : (List Int) → GS := fun y0 => ⟨[], [(30, (.gr (.int .i64) 3 y0 true))]⟩
def f93_p1_P (x12 x13 x14 : Int) (x15 x16 : Bool) (x11 : List Int) (r : (List Int)) : Prop := Lp cx f93_M 148 (part Try.f93 1) (f93_p1_H x12 x13 x14 x15 x16 x11) (f93_p1_x r) (f93_p1_s r)
noncomputable def f93_v : (List Int) → G := fun y0 => (.r (.at .unit0))
noncomputable def f93_k0 : (List Int) → List (Nat × Blk) := fun y0 => [(30, (.gr (.int .i64) 3 y0 true))]
noncomputable def f93_k (x1 x2 x3 : Int) (x4 : List Int) : (List Int) → List (Nat × Blk) := fun y0 => [(30, (.gr (.int .i64) 3 y0 true))]
noncomputable def f93_A (x1 x2 x3 : Int) (x4 : List Int) : List G := [(.r (.at (.sl 30 0 (List.length x4)))), (GI x1), (GI x2), (GI x3), (.r (.at (.fn 87)))]
noncomputable def f93_K (x1 x2 x3 : Int) (x4 : List Int) : List (Nat × Blk) := [(30, (.gr (.int .i64) 3 x4 true))]
def f93_C (x1 x2 x3 : Int) (x4 : List Int) (r : (List Int)) : Prop := CallOK cx 93 (f93_A x1 x2 x3 x4) (f93_K x1 x2 x3 x4) [] (f93_v r) (f93_k x1 x2 x3 x4 r)

def f86_M : List Nat := []
noncomputable def f86_v : (List Int) → G := fun y0 => (.r (.at .unit0))
noncomputable def f86_k0 : (List Int) → List (Nat × Blk) := fun y0 => [(30, (.gr (.int .i64) 3 y0 true))]
noncomputable def f86_k (x1 : List Int) : (List Int) → List (Nat × Blk) := fun y0 => [(30, (.gr (.int .i64) 3 y0 true))]
noncomputable def f86_A (x1 : List Int) : List G := [(.r (.at (.sl 30 0 (List.length x1)))), (.r (.at (.fn 87)))]
noncomputable def f86_K (x1 : List Int) : List (Nat × Blk) := [(30, (.gr (.int .i64) 3 x1 true))]
def f86_C (x1 : List Int) (r : (List Int)) : Prop := CallOK cx 86 (f86_A x1) (f86_K x1) [] (f86_v r) (f86_k x1 r)

def f65_M : List Nat := []
noncomputable def f65_v : (Nat × (List Int)) → G := fun (y0, y1) => (.r (.at (.sl 30 0 y0)))
noncomputable def f65_k0 : (Nat × (List Int)) → List (Nat × Blk) := fun (y0, y1) => [(30, (.gr (.int .i64) 3 y1 true))]
noncomputable def f65_k (x1 : List Int) : (Nat × (List Int)) → List (Nat × Blk) := fun (y0, y1) => [(30, (.gr (.int .i64) 3 y1 true))]
noncomputable def f65_A (x1 : List Int) : List G := [(.r (.at (.sl 30 0 (List.length x1))))]
noncomputable def f65_K (x1 : List Int) : List (Nat × Blk) := [(30, (.gr (.int .i64) 3 x1 true))]
def f65_C (x1 : List Int) (r : Nat × (List Int)) : Prop := CallOK cx 65 (f65_A x1) (f65_K x1) [] (f65_v r) (f65_k x1 r)

def f27_M : List Nat := [29, 30]
noncomputable def f27_p4_H (x1 : List Int) (x7 : Int) (x8 : List Int) : GS := ⟨[(5, (.r (.at (.ptr 29 0 0)))), (21, (GL x1)), (22, (.r (.at (.int .i64 ((List.length x1 : Nat) : Int))))), (23, (GI x7))], [(29, (.var [.arr (.int .i64) 31 x8]))]⟩
noncomputable def f27_p4_x : (List Int) → GExit := fun y0 => (.exit 1)
noncomputable def f27_p4_s (x1 : List Int) : (List Int) → GS := fun y0 => ⟨[(5, (.r (.at (.ptr 29 0 0))))], [(29, (.var [.arr (.int .i64) 31 y0]))]⟩
def f27_p4_P (x1 : List Int) (x7 : Int) (x8 : List Int) (r : (List Int)) : Prop := Lp cx f27_M 57 (part Try.f27 4) (f27_p4_H x1 x7 x8) (f27_p4_x r) (f27_p4_s x1 r)
noncomputable def f27_p15_2_H (x22 : List Int) (x21 : Int) (x11 : List Int) (x23 : Int) : GS := ⟨[(8, (.r (.at (.sl 30 0 (List.length x22))))), (9, (GI x21)), (10, (.r (.at (.int .i64 ((x11)[(Int.toNat x21)]?.getD 0))))), (11, (GI x23)), (34, (.r (.agg [.arr (.int .i64) 31 x11]))), (35, (GI x21)), (47, (.r (.at (.bool ((iAnd .i64 ((x11)[(Int.toNat x21)]?.getD 0) x23) != 0)))))], [(30, (.gr (.int .i64) 3 x22 true))]⟩
noncomputable def f27_p15_2_x : (List Int) → GExit := fun y0 => .normal
noncomputable def f27_p15_2_s (x22 : List Int) (x21 : Int) (x11 : List Int) (x23 : Int) : (List Int) → GS := fun y0 => ⟨[(8, (.r (.at (.sl 30 0 (List.length y0))))), (9, (GI x21)), (10, (.r (.at (.int .i64 ((x11)[(Int.toNat x21)]?.getD 0))))), (11, (GI x23)), (34, (.r (.agg [.arr (.int .i64) 31 x11]))), (35, (GI x21))], [(30, (.gr (.int .i64) 3 y0 true))]⟩
def f27_p15_2_P (x22 : List Int) (x21 : Int) (x11 : List Int) (x23 : Int) (r : (List Int)) : Prop := Ex cx f27_M 57 (part Try.f27 15) (f27_p15_2_H x22 x21 x11 x23) (f27_p15_2_x r) (f27_p15_2_s x22 x21 x11 x23 r)
noncomputable def f27_p12_1_H (x21 : Int) (x11 : List Int) (x23 : Int) (x22 : List Int) : GS := ⟨[(8, (.r (.at (.sl 30 0 (List.length x22))))), (9, (GI x21)), (10, (.r (.at (.int .i64 ((x11)[(Int.toNat x21)]?.getD 0))))), (11, (GI x23)), (34, (.r (.agg [.arr (.int .i64) 31 x11]))), (35, (GI x21))], [(30, (.gr (.int .i64) 3 x22 true))]⟩
noncomputable def f27_p12_1_x : (List Int) → GExit := fun y0 => (.exit 5)
noncomputable def f27_p12_1_s (x21 : Int) (x11 : List Int) : (List Int) → GS := fun y0 => ⟨[(8, (.r (.at (.sl 30 0 (List.length y0))))), (34, (.r (.agg [.arr (.int .i64) 31 x11]))), (35, (GI x21))], [(30, (.gr (.int .i64) 3 y0 true))]⟩
def f27_p12_1_P (x21 : Int) (x11 : List Int) (x23 : Int) (x22 : List Int) (r : (List Int)) : Prop := Lp cx f27_M 57 (part Try.f27 12) (f27_p12_1_H x21 x11 x23 x22) (f27_p12_1_x r) (f27_p12_1_s x21 x11 r)
noncomputable def f27_p8_H (x11 : List Int) (x21 : Int) (x20 : List Int) : GS := ⟨[(8, (.r (.at (.sl 30 0 (List.length x20))))), (34, (.r (.agg [.arr (.int .i64) 31 x11]))), (35, (GI x21))], [(30, (.gr (.int .i64) 3 x20 true))]⟩
noncomputable def f27_p8_x : (List Int) → GExit := fun y0 => (.exit 3)
noncomputable def f27_p8_s (x11 : List Int) : (List Int) → GS := fun y0 => ⟨[(8, (.r (.at (.sl 30 0 (List.length y0)))))], [(30, (.gr (.int .i64) 3 y0 true))]⟩
def f27_p8_P (x11 : List Int) (x21 : Int) (x20 : List Int) (r : (List Int)) : Prop := Lp cx f27_M 57 (part Try.f27 8) (f27_p8_H x11 x21 x20) (f27_p8_x r) (f27_p8_s x11 r)
noncomputable def f27_v : ((List Int) × Int) → G := fun (y0, y1) => (.tup [(.at (.lst (.int .i64) y0 false)), (.at (.int .i64 y1))])
noncomputable def f27_k0 : ((List Int) × Int) → List (Nat × Blk) := fun (y0, y1) => []
noncomputable def f27_k (x1 : List Int) : ((List Int) × Int) → List (Nat × Blk) := fun (y0, y1) => []
noncomputable def f27_A (x1 : List Int) : List G := [(GL x1)]
noncomputable def f27_K (x1 : List Int) : List (Nat × Blk) := []
def f27_C (x1 : List Int) (r : (List Int) × Int) : Prop := CallOK cx 27 (f27_A x1) (f27_K x1) [] (f27_v r) (f27_k x1 r)

def f70_M : List Nat := [31]
noncomputable def f70_v : (List Int) → G := fun y0 => (.r (.at (.sl 31 0 (List.length y0))))
noncomputable def f70_k0 : (List Int) → List (Nat × Blk) := fun y0 => [(31, (.gr (.int .i64) 3 y0 true))]
noncomputable def f70_k (x1 : Option (List Int)) : (List Int) → List (Nat × Blk) := fun y0 => [(31, (.gr (.int .i64) 3 y0 true))]
noncomputable def f70_A (x1 : Option (List Int)) : List G := [(.r (.at (.olst (.int .i64) x1)))]
noncomputable def f70_K (x1 : Option (List Int)) : List (Nat × Blk) := []
def f70_C (x1 : Option (List Int)) (r : (List Int)) : Prop := CallOK cx 70 (f70_A x1) (f70_K x1) [] (f70_v r) (f70_k x1 r)

noncomputable def f70m_v : (List Int) → G := f70_v
noncomputable def f70m_k0 : (List Int) → List (Nat × Blk) := f70_k0
noncomputable def f70m_k (x1 : List Int) : (List Int) → List (Nat × Blk) := f70_k (some x1)
noncomputable def f70m_A (x1 : List Int) : List G := [(GL x1)]
noncomputable def f70m_K (x1 : List Int) : List (Nat × Blk) := []
def f70m_C (x1 : List Int) (r : (List Int)) : Prop := CallOK cx 70 (f70m_A x1) (f70m_K x1) [] (f70m_v r) (f70m_k x1 r)

def f89_M : List Nat := []
noncomputable def f89_p10_5_H (x28 : List Int) (x46 x29 : Int) (x47 x48 x49 : Int) (x45 : List Int) : GS := ⟨[(0, (.r (.at (.sl 31 0 (List.length x28))))), (3, (GI x46)), (4, (.r (.at (.sl 31 (0 + (Int.toNat x29)) ((List.length x28) - (Int.toNat x29)))))), (5, (GI x47)), (44, (.r (.at (.bool (x48 != x49)))))], [(31, (.gr (.int .i64) 3 x45 true))]⟩
noncomputable def f89_p10_5_x : (Int × (List Int)) → GExit := fun (y0, y1) => .normal
noncomputable def f89_p10_5_s (x28 : List Int) (x46 x29 : Int) (x47 x48 x49 : Int) (x45 : List Int) : (Int × (List Int)) → GS := fun (y0, y1) => ⟨[(0, (.r (.at (.sl 31 0 (List.length x28))))), (3, (GI y0)), (4, (.r (.at (.sl 31 (0 + (Int.toNat x29)) ((List.length x28) - (Int.toNat x29)))))), (5, (GI x47))], [(31, (.gr (.int .i64) 3 y1 true))]⟩
def f89_p10_5_P (x28 : List Int) (x46 x29 : Int) (x47 x48 x49 : Int) (x45 : List Int) (r : Int × (List Int)) : Prop := Ex cx f89_M 61 (part Try.f89 10) (f89_p10_5_H x28 x46 x29 x47 x48 x49 x45) (f89_p10_5_x r) (f89_p10_5_s x28 x46 x29 x47 x48 x49 x45 r)
noncomputable def f89_p7_1_H (x28 : List Int) (x29 x46 x47 : Int) (x45 : List Int) : GS := ⟨[(0, (.r (.at (.sl 31 0 (List.length x28))))), (3, (GI x46)), (4, (.r (.at (.sl 31 (0 + (Int.toNat x29)) ((List.length x28) - (Int.toNat x29)))))), (5, (GI x47))], [(31, (.gr (.int .i64) 3 x45 true))]⟩
noncomputable def f89_p7_1_x : (Int × (List Int)) → GExit := fun (y0, y1) => (.exit 2)
noncomputable def f89_p7_1_s (x28 : List Int) (x29 : Int) : (Int × (List Int)) → GS := fun (y0, y1) => ⟨[(0, (.r (.at (.sl 31 0 (List.length x28))))), (3, (GI y0))], [(31, (.gr (.int .i64) 3 y1 true))]⟩
def f89_p7_1_P (x28 : List Int) (x29 x46 x47 : Int) (x45 : List Int) (r : Int × (List Int)) : Prop := Lp cx f89_M 61 (part Try.f89 7) (f89_p7_1_H x28 x29 x46 x47 x45) (f89_p7_1_x r) (f89_p7_1_s x28 x29 r)
noncomputable def f89_p2_H (x29 : Int) (x28 : List Int) : GS := ⟨[(0, (.r (.at (.sl 31 0 (List.length x28))))), (3, (GI x29))], [(31, (.gr (.int .i64) 3 x28 true))]⟩
noncomputable def f89_p2_x : f89_p2_R → GExit := fun
  | .c0 y0 y1 => .ret
  | .c1 y0 => (.exit 0)
noncomputable def f89_p2_s : f89_p2_R → GS := fun
  | .c0 y0 y1 => ⟨[(2, (.r (.at (.sl 31 0 y0))))], [(31, (.gr (.int .i64) 3 y1 true))]⟩
  | .c1 y0 => ⟨[(0, (.r (.at (.sl 31 0 (List.length y0)))))], [(31, (.gr (.int .i64) 3 y0 true))]⟩
def f89_p2_P (x29 : Int) (x28 : List Int) (r : f89_p2_R) : Prop := Lp cx f89_M 61 (part Try.f89 2) (f89_p2_H x29 x28) (f89_p2_x r) (f89_p2_s r)
noncomputable def f89_v : f89_R → G := fun
  | .c0 y0 => (.r (.at (.sl 31 0 (List.length y0))))
  | .c1 y0 y1 => (.r (.at (.sl 31 0 y0)))
noncomputable def f89_k0 : f89_R → List (Nat × Blk) := fun
  | .c0 y0 => [(31, (.gr (.int .i64) 3 y0 true))]
  | .c1 y0 y1 => [(31, (.gr (.int .i64) 3 y1 true))]
noncomputable def f89_k (x1 : List Int) : f89_R → List (Nat × Blk) := fun
  | .c0 y0 => [(31, (.gr (.int .i64) 3 y0 true))]
  | .c1 y0 y1 => [(31, (.gr (.int .i64) 3 y1 true))]
noncomputable def f89_A (x1 : List Int) : List G := [(.r (.at (.sl 31 0 (List.length x1))))]
noncomputable def f89_K (x1 : List Int) : List (Nat × Blk) := [(31, (.gr (.int .i64) 3 x1 true))]
def f89_C (x1 : List Int) (r : f89_R) : Prop := CallOK cx 89 (f89_A x1) (f89_K x1) [] (f89_v r) (f89_k x1 r)

def f68_M : List Nat := [31]
noncomputable def f68_v : Bool → G := fun y0 => (GB y0)
noncomputable def f68_k0 : Bool → List (Nat × Blk) := fun y0 => []
noncomputable def f68_k (x1 : List Int) : Bool → List (Nat × Blk) := fun y0 => []
noncomputable def f68_A (x1 : List Int) : List G := [(GL x1)]
noncomputable def f68_K (x1 : List Int) : List (Nat × Blk) := []
def f68_C (x1 : List Int) (r : Bool) : Prop := CallOK cx 68 (f68_A x1) (f68_K x1) [] (f68_v r) (f68_k x1 r)

def f107_1_M : List Nat := []
noncomputable def f107_1_p5_2_H (x3 : List Int) (x1 x2 : Int) (x38 x44 : Int) (x43 : List Int) : GS := ⟨[(0, (.r (.at (.sl 32 0 (List.length x3))))), (1, (GI x1)), (2, (GI x2)), (3, (.r (.at (.fn 87)))), (8, (GI x38)), (9, (GI x44))], [(32, (.gr (.int .i64) 3 x43 true))]⟩
noncomputable def f107_1_p5_2_x : (List Int) → GExit := fun y0 => (.exit 2)
noncomputable def f107_1_p5_2_s (x3 : List Int) (x1 x2 x38 : Int) : (List Int) → GS := fun y0 => ⟨[(0, (.r (.at (.sl 32 0 (List.length x3))))), (1, (GI x1)), (2, (GI x2)), (3, (.r (.at (.fn 87)))), (8, (GI x38))], [(32, (.gr (.int .i64) 3 y0 true))]⟩
def f107_1_p5_2_P (x3 : List Int) (x1 x2 : Int) (x38 x44 : Int) (x43 : List Int) (r : (List Int)) : Prop := Lp cx f107_1_M 53 (part Try.f107 5) (f107_1_p5_2_H x3 x1 x2 x38 x44 x43) (f107_1_p5_2_x r) (f107_1_p5_2_s x3 x1 x2 x38 r)
noncomputable def f107_1_p1_H (x3 : List Int) (x1 x2 x38 : Int) (x37 : List Int) : GS := ⟨[(0, (.r (.at (.sl 32 0 (List.length x3))))), (1, (GI x1)), (2, (GI x2)), (3, (.r (.at (.fn 87)))), (8, (GI x38))], [(32, (.gr (.int .i64) 3 x37 true))]⟩
noncomputable def f107_1_p1_x : (List Int) → GExit := fun y0 => (.exit 0)
noncomputable def f107_1_p1_s (x3 : List Int) (x1 x2 : Int) : (List Int) → GS := fun y0 => ⟨[], [(32, (.gr (.int .i64) 3 y0 true))]⟩
def f107_1_p1_P (x3 : List Int) (x1 x2 x38 : Int) (x37 : List Int) (r : (List Int)) : Prop := Lp cx f107_1_M 53 (part Try.f107 1) (f107_1_p1_H x3 x1 x2 x38 x37) (f107_1_p1_x r) (f107_1_p1_s x3 x1 x2 r)
noncomputable def f107_1_v : (List Int) → G := fun y0 => (.r (.at .unit0))
noncomputable def f107_1_k0 : (List Int) → List (Nat × Blk) := fun y0 => [(32, (.gr (.int .i64) 3 y0 true))]
noncomputable def f107_1_k (x1 x2 : Int) (x3 : List Int) : (List Int) → List (Nat × Blk) := fun y0 => [(32, (.gr (.int .i64) 3 y0 true))]
noncomputable def f107_1_A (x1 x2 : Int) (x3 : List Int) : List G := [(.r (.at (.sl 32 0 (List.length x3)))), (GI x1), (GI x2), (.r (.at (.fn 87)))]
noncomputable def f107_1_K (x1 x2 : Int) (x3 : List Int) : List (Nat × Blk) := [(32, (.gr (.int .i64) 3 x3 true))]
def f107_1_C (x1 x2 : Int) (x3 : List Int) (r : (List Int)) : Prop := CallOK cx 107 (f107_1_A x1 x2 x3) (f107_1_K x1 x2 x3) [] (f107_1_v r) (f107_1_k x1 x2 x3 r)

def f93_1_M : List Nat := []
noncomputable def f93_1_p5_1_H (x11 : List Int) (x12 x13 x14 : Int) (x15 x16 : Bool) : GS := ⟨[(0, (.r (.at (.sl 32 0 (List.length x11))))), (1, (GI x12)), (2, (GI x13)), (3, (GI x14)), (4, (.r (.at (.fn 87)))), (10, (GB x15)), (11, (GB x16)), (12, (.r (.at (.int .i64 (w64 (x13 - x12)))))), (39, (.r (.at (.bool (!x15)))))], [(32, (.gr (.int .i64) 3 x11 true))]⟩
noncomputable def f93_1_p5_1_x : Unit → GExit := fun _ => .normal
noncomputable def f93_1_p5_1_s (x11 : List Int) (x12 x13 x14 : Int) (x15 x16 : Bool) : Unit → GS := fun _ => ⟨[(0, (.r (.at (.sl 32 0 (List.length x11))))), (1, (GI x12)), (2, (GI x13)), (3, (GI x14)), (4, (.r (.at (.fn 87)))), (10, (GB x15)), (11, (GB x16)), (12, (.r (.at (.int .i64 (w64 (x13 - x12))))))], [(32, (.gr (.int .i64) 3 x11 true))]⟩
def f93_1_p5_1_P (x11 : List Int) (x12 x13 x14 : Int) (x15 x16 : Bool) (r : Unit) : Prop := Ex cx f93_1_M 148 (part Try.f93 5) (f93_1_p5_1_H x11 x12 x13 x14 x15 x16) (f93_1_p5_1_x r) (f93_1_p5_1_s x11 x12 x13 x14 x15 x16 r)
noncomputable def f93_1_p1_H (x12 x13 x14 : Int) (x15 x16 : Bool) (x11 : List Int) : GS := ⟨[(0, (.r (.at (.sl 32 0 (List.length x11))))), (1, (GI x12)), (2, (GI x13)), (3, (GI x14)), (4, (.r (.at (.fn 87)))), (10, (GB x15)), (11, (GB x16))], [(32, (.gr (.int .i64) 3 x11 true))]⟩
noncomputable def f93_1_p1_x : (List Int) → GExit := fun y0 => .ret
noncomputable def f93_1_p1_s : (List Int) → GS := fun y0 => ⟨[], [(32, (.gr (.int .i64) 3 y0 true))]⟩
def f93_1_p1_P (x12 x13 x14 : Int) (x15 x16 : Bool) (x11 : List Int) (r : (List Int)) : Prop := Lp cx f93_1_M 148 (part Try.f93 1) (f93_1_p1_H x12 x13 x14 x15 x16 x11) (f93_1_p1_x r) (f93_1_p1_s r)
noncomputable def f93_1_v : (List Int) → G := fun y0 => (.r (.at .unit0))
noncomputable def f93_1_k0 : (List Int) → List (Nat × Blk) := fun y0 => [(32, (.gr (.int .i64) 3 y0 true))]
noncomputable def f93_1_k (x1 x2 x3 : Int) (x4 : List Int) : (List Int) → List (Nat × Blk) := fun y0 => [(32, (.gr (.int .i64) 3 y0 true))]
noncomputable def f93_1_A (x1 x2 x3 : Int) (x4 : List Int) : List G := [(.r (.at (.sl 32 0 (List.length x4)))), (GI x1), (GI x2), (GI x3), (.r (.at (.fn 87)))]
noncomputable def f93_1_K (x1 x2 x3 : Int) (x4 : List Int) : List (Nat × Blk) := [(32, (.gr (.int .i64) 3 x4 true))]
def f93_1_C (x1 x2 x3 : Int) (x4 : List Int) (r : (List Int)) : Prop := CallOK cx 93 (f93_1_A x1 x2 x3 x4) (f93_1_K x1 x2 x3 x4) [] (f93_1_v r) (f93_1_k x1 x2 x3 x4 r)

def f86_1_M : List Nat := []
noncomputable def f86_1_v : (List Int) → G := fun y0 => (.r (.at .unit0))
noncomputable def f86_1_k0 : (List Int) → List (Nat × Blk) := fun y0 => [(32, (.gr (.int .i64) 3 y0 true))]
noncomputable def f86_1_k (x1 : List Int) : (List Int) → List (Nat × Blk) := fun y0 => [(32, (.gr (.int .i64) 3 y0 true))]
noncomputable def f86_1_A (x1 : List Int) : List G := [(.r (.at (.sl 32 0 (List.length x1)))), (.r (.at (.fn 87)))]
noncomputable def f86_1_K (x1 : List Int) : List (Nat × Blk) := [(32, (.gr (.int .i64) 3 x1 true))]
def f86_1_C (x1 : List Int) (r : (List Int)) : Prop := CallOK cx 86 (f86_1_A x1) (f86_1_K x1) [] (f86_1_v r) (f86_1_k x1 r)

def f65_1_M : List Nat := []
noncomputable def f65_1_v : (Nat × (List Int)) → G := fun (y0, y1) => (.r (.at (.sl 32 0 y0)))
noncomputable def f65_1_k0 : (Nat × (List Int)) → List (Nat × Blk) := fun (y0, y1) => [(32, (.gr (.int .i64) 3 y1 true))]
noncomputable def f65_1_k (x1 : List Int) : (Nat × (List Int)) → List (Nat × Blk) := fun (y0, y1) => [(32, (.gr (.int .i64) 3 y1 true))]
noncomputable def f65_1_A (x1 : List Int) : List G := [(.r (.at (.sl 32 0 (List.length x1))))]
noncomputable def f65_1_K (x1 : List Int) : List (Nat × Blk) := [(32, (.gr (.int .i64) 3 x1 true))]
def f65_1_C (x1 : List Int) (r : Nat × (List Int)) : Prop := CallOK cx 65 (f65_1_A x1) (f65_1_K x1) [] (f65_1_v r) (f65_1_k x1 r)

def f29_M : List Nat := [32]
noncomputable def f29_p8_1_H (x14 : Int) (x1 : List Int) (x13 x16 : Int) (x15 : List Int) : GS := ⟨[(5, (.r (.at (.sl 32 0 (List.length x15))))), (8, (.r (.at (.int .i64 (w64 (Int.tdiv x14 (iAnd .i64 x14 (w64 (0 - x14))))))))), (20, (GL x1)), (21, (.r (.at (.int .i64 ((List.length x1 : Nat) : Int))))), (22, (GI x13)), (34, (.r (.at (.int .i64 (w64 (Int.tdiv x14 (w64 (Int.tdiv x14 (iAnd .i64 x14 (w64 (0 - x14))))))))))), (35, (GI x16))], [(32, (.gr (.int .i64) 3 x15 true))]⟩
noncomputable def f29_p8_1_x : (List Int) → GExit := fun y0 => (.exit 3)
noncomputable def f29_p8_1_s (x14 : Int) (x1 : List Int) (x13 : Int) : (List Int) → GS := fun y0 => ⟨[(5, (.r (.at (.sl 32 0 (List.length y0))))), (20, (GL x1)), (21, (.r (.at (.int .i64 ((List.length x1 : Nat) : Int))))), (22, (GI x13))], [(32, (.gr (.int .i64) 3 y0 true))]⟩
def f29_p8_1_P (x14 : Int) (x1 : List Int) (x13 x16 : Int) (x15 : List Int) (r : (List Int)) : Prop := Lp cx f29_M 45 (part Try.f29 8) (f29_p8_1_H x14 x1 x13 x16 x15) (f29_p8_1_x r) (f29_p8_1_s x14 x1 x13 r)
noncomputable def f29_p4_H (x1 : List Int) (x13 : Int) (x12 : List Int) : GS := ⟨[(5, (.r (.at (.sl 32 0 (List.length x12))))), (20, (GL x1)), (21, (.r (.at (.int .i64 ((List.length x1 : Nat) : Int))))), (22, (GI x13))], [(32, (.gr (.int .i64) 3 x12 true))]⟩
noncomputable def f29_p4_x : (List Int) → GExit := fun y0 => (.exit 1)
noncomputable def f29_p4_s (x1 : List Int) : (List Int) → GS := fun y0 => ⟨[(5, (.r (.at (.sl 32 0 (List.length y0)))))], [(32, (.gr (.int .i64) 3 y0 true))]⟩
def f29_p4_P (x1 : List Int) (x13 : Int) (x12 : List Int) (r : (List Int)) : Prop := Lp cx f29_M 45 (part Try.f29 4) (f29_p4_H x1 x13 x12) (f29_p4_x r) (f29_p4_s x1 r)
noncomputable def f29_v : ((List Int) × Int) → G := fun (y0, y1) => (.tup [(.at (.lst (.int .i64) y0 false)), (.at (.int .i64 y1))])
noncomputable def f29_k0 : ((List Int) × Int) → List (Nat × Blk) := fun (y0, y1) => []
noncomputable def f29_k (x1 : List Int) : ((List Int) × Int) → List (Nat × Blk) := fun (y0, y1) => []
noncomputable def f29_A (x1 : List Int) : List G := [(GL x1)]
noncomputable def f29_K (x1 : List Int) : List (Nat × Blk) := []
def f29_C (x1 : List Int) (r : (List Int) × Int) : Prop := CallOK cx 29 (f29_A x1) (f29_K x1) [] (f29_v r) (f29_k x1 r)

def f70_1_M : List Nat := [33]
noncomputable def f70_1_v : (List Int) → G := fun y0 => (.r (.at (.sl 33 0 (List.length y0))))
noncomputable def f70_1_k0 : (List Int) → List (Nat × Blk) := fun y0 => [(33, (.gr (.int .i64) 3 y0 true))]
noncomputable def f70_1_k (x1 : Option (List Int)) : (List Int) → List (Nat × Blk) := fun y0 => [(33, (.gr (.int .i64) 3 y0 true))]
noncomputable def f70_1_A (x1 : Option (List Int)) : List G := [(.r (.at (.olst (.int .i64) x1)))]
noncomputable def f70_1_K (x1 : Option (List Int)) : List (Nat × Blk) := []
def f70_1_C (x1 : Option (List Int)) (r : (List Int)) : Prop := CallOK cx 70 (f70_1_A x1) (f70_1_K x1) [] (f70_1_v r) (f70_1_k x1 r)

noncomputable def f70_1m_v : (List Int) → G := f70_1_v
noncomputable def f70_1m_k0 : (List Int) → List (Nat × Blk) := f70_1_k0
noncomputable def f70_1m_k (x1 : List Int) : (List Int) → List (Nat × Blk) := f70_1_k (some x1)
noncomputable def f70_1m_A (x1 : List Int) : List G := [(GL x1)]
noncomputable def f70_1m_K (x1 : List Int) : List (Nat × Blk) := []
def f70_1m_C (x1 : List Int) (r : (List Int)) : Prop := CallOK cx 70 (f70_1m_A x1) (f70_1m_K x1) [] (f70_1m_v r) (f70_1m_k x1 r)

def f32_M : List Nat := [33]
noncomputable def f32_p5_H (x1 : List Int) (x4 x5 x6 : Int) : GS := ⟨[(0, (GL x1)), (5, (.r (.at (.int .i64 ((List.length x1 : Nat) : Int))))), (6, (GI x4)), (7, (GI x5)), (33, (.r (.at (.int .i64 ((List.length x1 : Nat) : Int))))), (34, (GI x6))], []⟩
noncomputable def f32_p5_x : Int → GExit := fun y0 => (.exit 1)
noncomputable def f32_p5_s (x1 : List Int) (x4 : Int) : Int → GS := fun y0 => ⟨[(0, (GL x1)), (5, (.r (.at (.int .i64 ((List.length x1 : Nat) : Int))))), (6, (GI x4)), (7, (GI y0))], []⟩
def f32_p5_P (x1 : List Int) (x4 x5 x6 : Int) (r : Int) : Prop := Lp cx f32_M 98 (part Try.f32 5) (f32_p5_H x1 x4 x5 x6) (f32_p5_x r) (f32_p5_s x1 x4 r)
noncomputable def f32_p13_H (x1 : List Int) (x4 x15 : Int) (x14 : List Int) : GS := ⟨[(9, (.r (.at (.sl 33 0 (Int.toNat (w64 (((List.length x1 : Nat) : Int) - 1))))))), (86, (GI x4)), (87, (GI x15))], [(33, (.gr (.int .i64) 3 x14 true))]⟩
noncomputable def f32_p13_x : (List Int) → GExit := fun y0 => (.exit 6)
noncomputable def f32_p13_s (x1 : List Int) (x4 : Int) : (List Int) → GS := fun y0 => ⟨[(9, (.r (.at (.sl 33 0 (Int.toNat (w64 (((List.length x1 : Nat) : Int) - 1)))))))], [(33, (.gr (.int .i64) 3 y0 true))]⟩
def f32_p13_P (x1 : List Int) (x4 x15 : Int) (x14 : List Int) (r : (List Int)) : Prop := Lp cx f32_M 98 (part Try.f32 13) (f32_p13_H x1 x4 x15 x14) (f32_p13_x r) (f32_p13_s x1 x4 r)
noncomputable def f32_p17_H (x9 : Int) (x10 : List Int) (x24 : Int) (x23 : List Int) : GS := ⟨[(7, (GI x9)), (9, (.r (.at (.sl 33 0 (List.length x10))))), (52, (GI x9)), (53, (GI x24))], [(33, (.gr (.int .i64) 3 x23 true))]⟩
noncomputable def f32_p17_x : (List Int) → GExit := fun y0 => (.exit 4)
noncomputable def f32_p17_s (x9 : Int) (x10 : List Int) : (List Int) → GS := fun y0 => ⟨[(7, (GI x9)), (9, (.r (.at (.sl 33 0 (List.length x10)))))], [(33, (.gr (.int .i64) 3 y0 true))]⟩
def f32_p17_P (x9 : Int) (x10 : List Int) (x24 : Int) (x23 : List Int) (r : (List Int)) : Prop := Lp cx f32_M 98 (part Try.f32 17) (f32_p17_H x9 x10 x24 x23) (f32_p17_x r) (f32_p17_s x9 x10 r)
noncomputable def f32_p11_H (x1 : List Int) (x4 x9 : Int) (x10 : List Int) : GS := ⟨[(5, (.r (.at (.int .i64 ((List.length x1 : Nat) : Int))))), (6, (GI x4)), (7, (GI x9)), (9, (.r (.at (.sl 33 0 (List.length x10))))), (78, (.r (.at (.bool (decide (x4 ≤ x9))))))], [(33, (.gr (.int .i64) 3 x10 true))]⟩
noncomputable def f32_p11_x : f32_p11_R → GExit := fun
  | .c0 y0 => .normal
  | .c1 y0 => .normal
noncomputable def f32_p11_s (x1 : List Int) (x4 x9 : Int) (x10 : List Int) : f32_p11_R → GS := fun
  | .c0 y0 => ⟨[(9, (.r (.at (.sl 33 0 (Int.toNat (w64 (((List.length x1 : Nat) : Int) - 1)))))))], [(33, (.gr (.int .i64) 3 y0 true))]⟩
  | .c1 y0 => ⟨[(9, (.r (.at (.sl 33 0 (List.length y0)))))], [(33, (.gr (.int .i64) 3 y0 true))]⟩
def f32_p11_P (x1 : List Int) (x4 x9 : Int) (x10 : List Int) (r : f32_p11_R) : Prop := Ex cx f32_M 98 (part Try.f32 11) (f32_p11_H x1 x4 x9 x10) (f32_p11_x r) (f32_p11_s x1 x4 x9 x10 r)
noncomputable def f32_p13_1_H (x1 : List Int) (x4 x32 : Int) (x31 : List Int) : GS := ⟨[(9, (.r (.at (.sl 33 0 (Int.toNat (w64 (((List.length x1 : Nat) : Int) - 1))))))), (86, (GI x4)), (87, (GI x32))], [(33, (.gr (.int .i64) 3 x31 true))]⟩
noncomputable def f32_p13_1_x : (List Int) → GExit := fun y0 => (.exit 6)
noncomputable def f32_p13_1_s (x1 : List Int) (x4 : Int) : (List Int) → GS := fun y0 => ⟨[(9, (.r (.at (.sl 33 0 (Int.toNat (w64 (((List.length x1 : Nat) : Int) - 1)))))))], [(33, (.gr (.int .i64) 3 y0 true))]⟩
def f32_p13_1_P (x1 : List Int) (x4 x32 : Int) (x31 : List Int) (r : (List Int)) : Prop := Lp cx f32_M 98 (part Try.f32 13) (f32_p13_1_H x1 x4 x32 x31) (f32_p13_1_x r) (f32_p13_1_s x1 x4 r)
noncomputable def f32_p17_1_H (x9 : Int) (x10 : List Int) (x41 : Int) (x40 : List Int) : GS := ⟨[(7, (GI x9)), (9, (.r (.at (.sl 33 0 (List.length x10))))), (52, (GI x9)), (53, (GI x41))], [(33, (.gr (.int .i64) 3 x40 true))]⟩
noncomputable def f32_p17_1_x : (List Int) → GExit := fun y0 => (.exit 4)
noncomputable def f32_p17_1_s (x9 : Int) (x10 : List Int) : (List Int) → GS := fun y0 => ⟨[(7, (GI x9)), (9, (.r (.at (.sl 33 0 (List.length x10)))))], [(33, (.gr (.int .i64) 3 y0 true))]⟩
def f32_p17_1_P (x9 : Int) (x10 : List Int) (x41 : Int) (x40 : List Int) (r : (List Int)) : Prop := Lp cx f32_M 98 (part Try.f32 17) (f32_p17_1_H x9 x10 x41 x40) (f32_p17_1_x r) (f32_p17_1_s x9 x10 r)
noncomputable def f32_p11_1_H (x1 : List Int) (x4 x9 : Int) (x10 : List Int) : GS := ⟨[(5, (.r (.at (.int .i64 ((List.length x1 : Nat) : Int))))), (6, (GI x4)), (7, (GI x9)), (9, (.r (.at (.sl 33 0 (List.length x10))))), (78, (.r (.at (.bool (decide (x4 ≤ x9))))))], [(33, (.gr (.int .i64) 3 x10 true))]⟩
noncomputable def f32_p11_1_x : f32_p11_1_R → GExit := fun
  | .c0 y0 => .normal
  | .c1 y0 => .normal
noncomputable def f32_p11_1_s (x1 : List Int) (x4 x9 : Int) (x10 : List Int) : f32_p11_1_R → GS := fun
  | .c0 y0 => ⟨[(9, (.r (.at (.sl 33 0 (Int.toNat (w64 (((List.length x1 : Nat) : Int) - 1)))))))], [(33, (.gr (.int .i64) 3 y0 true))]⟩
  | .c1 y0 => ⟨[(9, (.r (.at (.sl 33 0 (List.length y0)))))], [(33, (.gr (.int .i64) 3 y0 true))]⟩
def f32_p11_1_P (x1 : List Int) (x4 x9 : Int) (x10 : List Int) (r : f32_p11_1_R) : Prop := Ex cx f32_M 98 (part Try.f32 11) (f32_p11_1_H x1 x4 x9 x10) (f32_p11_1_x r) (f32_p11_1_s x1 x4 x9 x10 r)
noncomputable def f32_v : ((List Int) × Int) → G := fun (y0, y1) => (.tup [(.at (.lst (.int .i64) y0 false)), (.at (.int .i64 y1))])
noncomputable def f32_k0 : ((List Int) × Int) → List (Nat × Blk) := fun (y0, y1) => []
noncomputable def f32_k (x1 : List Int) : ((List Int) × Int) → List (Nat × Blk) := fun (y0, y1) => []
noncomputable def f32_A (x1 : List Int) : List G := [(GL x1)]
noncomputable def f32_K (x1 : List Int) : List (Nat × Blk) := []
def f32_C (x1 : List Int) (r : (List Int) × Int) : Prop := CallOK cx 32 (f32_A x1) (f32_K x1) [] (f32_v r) (f32_k x1 r)

def f74_M : List Nat := []
noncomputable def f74_p4_H (x2 x3 : Int) (x1 : List Int) (x4 : Int) : GS := ⟨[(3, (GI x2)), (4, (GI x3)), (6, (GL x1)), (7, (.r (.at (.int .i64 ((List.length x1 : Nat) : Int))))), (8, (GI x3)), (15, (.r (.at (.bool (decide (x4 > x3))))))], []⟩
noncomputable def f74_p4_x : Int → GExit := fun y0 => .normal
noncomputable def f74_p4_s (x2 x3 : Int) (x1 : List Int) (x4 : Int) : Int → GS := fun y0 => ⟨[(3, (GI y0)), (6, (GL x1)), (7, (.r (.at (.int .i64 ((List.length x1 : Nat) : Int))))), (8, (GI x3))], []⟩
def f74_p4_P (x2 x3 : Int) (x1 : List Int) (x4 : Int) (r : Int) : Prop := Ex cx f74_M 20 (part Try.f74 4) (f74_p4_H x2 x3 x1 x4) (f74_p4_x r) (f74_p4_s x2 x3 x1 x4 r)
noncomputable def f74_p1_H (x1 : List Int) (x2 x3 : Int) : GS := ⟨[(3, (GI x2)), (6, (GL x1)), (7, (.r (.at (.int .i64 ((List.length x1 : Nat) : Int))))), (8, (GI x3))], []⟩
noncomputable def f74_p1_x : Int → GExit := fun y0 => (.exit 0)
noncomputable def f74_p1_s (x1 : List Int) : Int → GS := fun y0 => ⟨[(3, (GI y0))], []⟩
def f74_p1_P (x1 : List Int) (x2 x3 : Int) (r : Int) : Prop := Lp cx f74_M 20 (part Try.f74 1) (f74_p1_H x1 x2 x3) (f74_p1_x r) (f74_p1_s x1 r)
noncomputable def f74_v : Int → G := fun y0 => (GI y0)
noncomputable def f74_k0 : Int → List (Nat × Blk) := fun y0 => []
noncomputable def f74_k (x1 : List Int) : Int → List (Nat × Blk) := fun y0 => []
noncomputable def f74_A (x1 : List Int) : List G := [(GL x1)]
noncomputable def f74_K (x1 : List Int) : List (Nat × Blk) := []
def f74_C (x1 : List Int) (r : Int) : Prop := CallOK cx 74 (f74_A x1) (f74_K x1) [] (f74_v r) (f74_k x1 r)

def f70_2_M : List Nat := [35]
noncomputable def f70_2_v : (List Int) → G := fun y0 => (GL y0)
noncomputable def f70_2_k0 : (List Int) → List (Nat × Blk) := fun y0 => []
noncomputable def f70_2_k (x1 : Option (List Int)) : (List Int) → List (Nat × Blk) := fun y0 => []
noncomputable def f70_2_A (x1 : Option (List Int)) : List G := [(.r (.at (.olst (.int .i64) x1)))]
noncomputable def f70_2_K (x1 : Option (List Int)) : List (Nat × Blk) := []
def f70_2_C (x1 : Option (List Int)) (r : (List Int)) : Prop := CallOK cx 70 (f70_2_A x1) (f70_2_K x1) [] (f70_2_v r) (f70_2_k x1 r)

noncomputable def f70_2m_v : (List Int) → G := f70_2_v
noncomputable def f70_2m_k0 : (List Int) → List (Nat × Blk) := f70_2_k0
noncomputable def f70_2m_k (x1 : List Int) : (List Int) → List (Nat × Blk) := f70_2_k (some x1)
noncomputable def f70_2m_A (x1 : List Int) : List G := [(GL x1)]
noncomputable def f70_2m_K (x1 : List Int) : List (Nat × Blk) := []
def f70_2m_C (x1 : List Int) (r : (List Int)) : Prop := CallOK cx 70 (f70_2m_A x1) (f70_2m_K x1) [] (f70_2m_v r) (f70_2m_k x1 r)

def f40_M : List Nat := [34]
noncomputable def f40_p5_1_H (x1 : List Int) (x3 : Int) (x6 : List Int) (x8 x7 : Int) : GS := ⟨[(0, (GL x1)), (2, (GI x3)), (3, (.r (.at (.sl 34 0 (List.length x6))))), (8, (GI x8)), (18, (.r (.at (.lst (.int .i64) ((List.drop 0 (List.take (Int.toNat x3) x1)) : List Int) false)))), (19, (.r (.at (.int .i64 ((List.length (List.drop 0 (List.take (Int.toNat x3) x1)) : Nat) : Int))))), (20, (GI x7)), (26, (.r (.at (.bool (decide (x8 > x3))))))], [(34, (.gr (.int .i64) 3 x6 true))]⟩
noncomputable def f40_p5_1_x : (List Int) → GExit := fun y0 => .normal
noncomputable def f40_p5_1_s (x1 : List Int) (x3 : Int) (x6 : List Int) (x8 x7 : Int) : (List Int) → GS := fun y0 => ⟨[(0, (GL x1)), (2, (GI x3)), (3, (.r (.at (.sl 34 0 (List.length y0))))), (18, (.r (.at (.lst (.int .i64) ((List.drop 0 (List.take (Int.toNat x3) x1)) : List Int) false)))), (19, (.r (.at (.int .i64 ((List.length (List.drop 0 (List.take (Int.toNat x3) x1)) : Nat) : Int))))), (20, (GI x7))], [(34, (.gr (.int .i64) 3 y0 true))]⟩
def f40_p5_1_P (x1 : List Int) (x3 : Int) (x6 : List Int) (x8 x7 : Int) (r : (List Int)) : Prop := Ex cx f40_M 40 (part Try.f40 5) (f40_p5_1_H x1 x3 x6 x8 x7) (f40_p5_1_x r) (f40_p5_1_s x1 x3 x6 x8 x7 r)
noncomputable def f40_p2_H (x1 : List Int) (x3 x7 : Int) (x6 : List Int) : GS := ⟨[(0, (GL x1)), (2, (GI x3)), (3, (.r (.at (.sl 34 0 (List.length x6))))), (18, (.r (.at (.lst (.int .i64) ((List.drop 0 (List.take (Int.toNat x3) x1)) : List Int) false)))), (19, (.r (.at (.int .i64 ((List.length (List.drop 0 (List.take (Int.toNat x3) x1)) : Nat) : Int))))), (20, (GI x7))], [(34, (.gr (.int .i64) 3 x6 true))]⟩
noncomputable def f40_p2_x : (List Int) → GExit := fun y0 => (.exit 0)
noncomputable def f40_p2_s (x1 : List Int) (x3 : Int) : (List Int) → GS := fun y0 => ⟨[(0, (GL x1)), (2, (GI x3)), (3, (.r (.at (.sl 34 0 (List.length y0)))))], [(34, (.gr (.int .i64) 3 y0 true))]⟩
def f40_p2_P (x1 : List Int) (x3 x7 : Int) (x6 : List Int) (r : (List Int)) : Prop := Lp cx f40_M 40 (part Try.f40 2) (f40_p2_H x1 x3 x7 x6) (f40_p2_x r) (f40_p2_s x1 x3 r)
noncomputable def f40_v : (Int × (List Int) × (List Int) × Int) → G := fun (y0, y1, y2, y3) => (.tup [(.at (.int .i64 y0)), (.at (.lst (.int .i64) y1 false)), (.at (.lst (.int .i64) y2 false)), (.at (.int .i64 y3))])
noncomputable def f40_k0 : (Int × (List Int) × (List Int) × Int) → List (Nat × Blk) := fun (y0, y1, y2, y3) => []
noncomputable def f40_k (x1 : List Int) : (Int × (List Int) × (List Int) × Int) → List (Nat × Blk) := fun (y0, y1, y2, y3) => []
noncomputable def f40_A (x1 : List Int) : List G := [(GL x1)]
noncomputable def f40_K (x1 : List Int) : List (Nat × Blk) := []
def f40_C (x1 : List Int) (r : Int × (List Int) × (List Int) × Int) : Prop := CallOK cx 40 (f40_A x1) (f40_K x1) [] (f40_v r) (f40_k x1 r)

def f95_M : List Nat := []
noncomputable def f95_v : (Int × Int) → G := fun (y0, y1) => (.tup [(.at (.int .u64 y0)), (.at (.int .u64 y1))])
noncomputable def f95_k0 : (Int × Int) → List (Nat × Blk) := fun (y0, y1) => []
noncomputable def f95_k (x1 x2 : Int) : (Int × Int) → List (Nat × Blk) := fun (y0, y1) => []
noncomputable def f95_A (x1 x2 : Int) : List G := [(.r (.at (.int .u64 x1))), (.r (.at (.int .u64 x2)))]
noncomputable def f95_K (x1 x2 : Int) : List (Nat × Blk) := []
def f95_C (x1 x2 : Int) (r : Int × Int) : Prop := CallOK cx 95 (f95_A x1 x2) (f95_K x1 x2) [] (f95_v r) (f95_k x1 x2 r)

def f90_M : List Nat := []
noncomputable def f90_v : (Int × Int) → G := fun (y0, y1) => (.tup [(.at (.int .u64 y0)), (.at (.int .u64 y1))])
noncomputable def f90_k0 : (Int × Int) → List (Nat × Blk) := fun (y0, y1) => []
noncomputable def f90_k (x1 x2 : Int) : (Int × Int) → List (Nat × Blk) := fun (y0, y1) => []
noncomputable def f90_A (x1 x2 : Int) : List G := [(.r (.at (.int .u64 x1))), (.r (.at (.int .u64 x2)))]
noncomputable def f90_K (x1 x2 : Int) : List (Nat × Blk) := []
def f90_C (x1 x2 : Int) (r : Int × Int) : Prop := CallOK cx 90 (f90_A x1 x2) (f90_K x1 x2) [] (f90_v r) (f90_k x1 x2 r)

def f76_M : List Nat := [36]
noncomputable def f76_p0_H (x1 : List Int) (x2 : Int) : GS := ⟨[(0, (GL x1)), (1, (GI x2)), (10, (.r (.at (.bool (decide (x2 < 0))))))], []⟩
noncomputable def f76_p0_x : Unit → GExit := fun _ => .normal
noncomputable def f76_p0_s (x1 : List Int) (x2 : Int) : Unit → GS := fun _ => ⟨[(0, (GL x1)), (1, (GI x2))], []⟩
def f76_p0_P (x1 : List Int) (x2 : Int) (r : Unit) : Prop := Ex cx f76_M 48 (part Try.f76 0) (f76_p0_H x1 x2) (f76_p0_x r) (f76_p0_s x1 x2 r)
noncomputable def f76_p1_H (x1 : List Int) (x4 : Int) : GS := ⟨[(0, (GL x1)), (6, (.r (.at (.int .u64 x4)))), (26, (.r (.at (.bool (decide (x4 > 9223372036854775807))))))], []⟩
noncomputable def f76_p1_x : Unit → GExit := fun _ => .normal
noncomputable def f76_p1_s (x1 : List Int) (x4 : Int) : Unit → GS := fun _ => ⟨[(0, (GL x1)), (6, (.r (.at (.int .u64 x4))))], []⟩
def f76_p1_P (x1 : List Int) (x4 : Int) (r : Unit) : Prop := Ex cx f76_M 48 (part Try.f76 1) (f76_p1_H x1 x4) (f76_p1_x r) (f76_p1_s x1 x4 r)
noncomputable def f76_p3_H (x4 x7 : Int) (x6 : List Int) : GS := ⟨[(7, (.r (.at (.sl 36 0 (Int.toNat (w64 (x4))))))), (8, (GI x7))], [(36, (.gr (.int .i64) 3 x6 true))]⟩
noncomputable def f76_p3_x : (List Int) → GExit := fun y0 => (.exit 0)
noncomputable def f76_p3_s (x4 : Int) : (List Int) → GS := fun y0 => ⟨[(7, (.r (.at (.sl 36 0 (Int.toNat (w64 (x4)))))))], [(36, (.gr (.int .i64) 3 y0 true))]⟩
def f76_p3_P (x4 x7 : Int) (x6 : List Int) (r : (List Int)) : Prop := Lp cx f76_M 48 (part Try.f76 3) (f76_p3_H x4 x7 x6) (f76_p3_x r) (f76_p3_s x4 r)
noncomputable def f76_v : (Nat × (List Int)) → G := fun (y0, y1) => (.r (.at (.sl 36 0 y0)))
noncomputable def f76_k0 : (Nat × (List Int)) → List (Nat × Blk) := fun (y0, y1) => [(36, (.gr (.int .i64) 3 y1 true))]
noncomputable def f76_k (x1 : List Int) (x2 : Int) : (Nat × (List Int)) → List (Nat × Blk) := fun (y0, y1) => [(36, (.gr (.int .i64) 3 y1 true))]
noncomputable def f76_A (x1 : List Int) (x2 : Int) : List G := [(GL x1), (GI x2)]
noncomputable def f76_K (x1 : List Int) (x2 : Int) : List (Nat × Blk) := []
def f76_C (x1 : List Int) (x2 : Int) (r : Nat × (List Int)) : Prop := CallOK cx 76 (f76_A x1 x2) (f76_K x1 x2) [] (f76_v r) (f76_k x1 x2 r)

def f42_M : List Nat := [36]
noncomputable def f42_p0_H (x1 : Int) (x2 x3 : List Int) (x4 : Int) : GS := ⟨[(0, (GI x1)), (1, (GL x2)), (2, (GL x3)), (8, (GI x4)), (15, (.r (.at (.bool (x4 == 0)))))], []⟩
noncomputable def f42_p0_x : Int → GExit := fun y0 => .normal
noncomputable def f42_p0_s (x1 : Int) (x2 x3 : List Int) (x4 : Int) : Int → GS := fun y0 => ⟨[(0, (GI x1)), (1, (GL x2)), (2, (GL x3)), (8, (GI y0))], []⟩
def f42_p0_P (x1 : Int) (x2 x3 : List Int) (x4 : Int) (r : Int) : Prop := Ex cx f42_M 76 (part Try.f42 0) (f42_p0_H x1 x2 x3 x4) (f42_p0_x r) (f42_p0_s x1 x2 x3 x4 r)
noncomputable def f42_p7_H (x3 : List Int) (x11 : Nat) (x2 : List Int) (x17 : Int) (x16 : List Int) : GS := ⟨[(2, (GL x3)), (9, (.r (.at (.sl 36 0 x11)))), (58, (GL x2)), (59, (.r (.at (.int .i64 ((List.length x2 : Nat) : Int))))), (60, (GI x17))], [(36, (.gr (.int .i64) 3 x16 true))]⟩
noncomputable def f42_p7_x : (List Int) → GExit := fun y0 => (.exit 1)
noncomputable def f42_p7_s (x3 : List Int) (x11 : Nat) (x2 : List Int) : (List Int) → GS := fun y0 => ⟨[(2, (GL x3)), (9, (.r (.at (.sl 36 0 x11))))], [(36, (.gr (.int .i64) 3 y0 true))]⟩
def f42_p7_P (x3 : List Int) (x11 : Nat) (x2 : List Int) (x17 : Int) (x16 : List Int) (r : (List Int)) : Prop := Lp cx f42_M 76 (part Try.f42 7) (f42_p7_H x3 x11 x2 x17 x16) (f42_p7_x r) (f42_p7_s x3 x11 x2 r)
noncomputable def f42_p7_1_H (x3 : List Int) (x23 : Nat) (x2 : List Int) (x29 : Int) (x28 : List Int) : GS := ⟨[(2, (GL x3)), (9, (.r (.at (.sl 36 0 x23)))), (58, (GL x2)), (59, (.r (.at (.int .i64 ((List.length x2 : Nat) : Int))))), (60, (GI x29))], [(36, (.gr (.int .i64) 3 x28 true))]⟩
noncomputable def f42_p7_1_x : (List Int) → GExit := fun y0 => (.exit 1)
noncomputable def f42_p7_1_s (x3 : List Int) (x23 : Nat) (x2 : List Int) : (List Int) → GS := fun y0 => ⟨[(2, (GL x3)), (9, (.r (.at (.sl 36 0 x23))))], [(36, (.gr (.int .i64) 3 y0 true))]⟩
def f42_p7_1_P (x3 : List Int) (x23 : Nat) (x2 : List Int) (x29 : Int) (x28 : List Int) (r : (List Int)) : Prop := Lp cx f42_M 76 (part Try.f42 7) (f42_p7_1_H x3 x23 x2 x29 x28) (f42_p7_1_x r) (f42_p7_1_s x3 x23 x2 r)
noncomputable def f42_v : ((List Int) × Int) → G := fun (y0, y1) => (.tup [(.at (.lst (.int .i64) y0 false)), (.at (.int .i64 y1))])
noncomputable def f42_k0 : ((List Int) × Int) → List (Nat × Blk) := fun (y0, y1) => []
noncomputable def f42_k (x1 : Int) (x2 x3 : List Int) : ((List Int) × Int) → List (Nat × Blk) := fun (y0, y1) => []
noncomputable def f42_A (x1 : Int) (x2 x3 : List Int) : List G := [(GI x1), (GL x2), (GL x3)]
noncomputable def f42_K (x1 : Int) (x2 x3 : List Int) : List (Nat × Blk) := []
def f42_C (x1 : Int) (x2 x3 : List Int) (r : (List Int) × Int) : Prop := CallOK cx 42 (f42_A x1 x2 x3) (f42_K x1 x2 x3) [] (f42_v r) (f42_k x1 x2 x3 r)

def f77_M : List Nat := []
noncomputable def f77_p2_H (x1 x2 : List Int) (x3 : Int) : GS := ⟨[(0, (GL x1)), (1, (GL x2)), (12, (.r (.at (.int .i64 ((List.length x1 : Nat) : Int))))), (13, (GI x3))], []⟩
noncomputable def f77_p2_x : f77_p2_R → GExit := fun
  | .c0 => .ret
  | .c1 => (.exit 0)
noncomputable def f77_p2_s (x1 x2 : List Int) : f77_p2_R → GS := fun
  | .c0 => ⟨[(4, (.r (.at (.bool false))))], []⟩
  | .c1 => ⟨[], []⟩
def f77_p2_P (x1 x2 : List Int) (x3 : Int) (r : f77_p2_R) : Prop := Lp cx f77_M 26 (part Try.f77 2) (f77_p2_H x1 x2 x3) (f77_p2_x r) (f77_p2_s x1 x2 r)
noncomputable def f77_v : Bool → G := fun y0 => (GB y0)
noncomputable def f77_k0 : Bool → List (Nat × Blk) := fun y0 => []
noncomputable def f77_k (x1 x2 : List Int) : Bool → List (Nat × Blk) := fun y0 => []
noncomputable def f77_A (x1 x2 : List Int) : List G := [(GL x1), (GL x2)]
noncomputable def f77_K (x1 x2 : List Int) : List (Nat × Blk) := []
def f77_C (x1 x2 : List Int) (r : Bool) : Prop := CallOK cx 77 (f77_A x1 x2) (f77_K x1 x2) [] (f77_v r) (f77_k x1 x2 r)

def f44_M : List Nat := [37]
noncomputable def f44_p4_H (x1 : List Int) (x5 x10 : Int) (x9 : List Int) : GS := ⟨[(0, (GL x1)), (5, (.r (.at (.sl 37 0 (List.length x9))))), (21, (GI x5)), (22, (GI x10))], [(37, (.gr (.int .i64) 3 x9 true))]⟩
noncomputable def f44_p4_x : (List Int) → GExit := fun y0 => (.exit 1)
noncomputable def f44_p4_s (x1 : List Int) (x5 : Int) : (List Int) → GS := fun y0 => ⟨[(5, (.r (.at (.sl 37 0 (List.length y0)))))], [(37, (.gr (.int .i64) 3 y0 true))]⟩
def f44_p4_P (x1 : List Int) (x5 x10 : Int) (x9 : List Int) (r : (List Int)) : Prop := Lp cx f44_M 38 (part Try.f44 4) (f44_p4_H x1 x5 x10 x9) (f44_p4_x r) (f44_p4_s x1 x5 r)
noncomputable def f44_v : ((List Int) × Int) → G := fun (y0, y1) => (.tup [(.at (.lst (.int .i64) y0 false)), (.at (.int .i64 y1))])
noncomputable def f44_k0 : ((List Int) × Int) → List (Nat × Blk) := fun (y0, y1) => []
noncomputable def f44_k (x1 : List Int) : ((List Int) × Int) → List (Nat × Blk) := fun (y0, y1) => []
noncomputable def f44_A (x1 : List Int) : List G := [(GL x1)]
noncomputable def f44_K (x1 : List Int) : List (Nat × Blk) := []
def f44_C (x1 : List Int) (r : (List Int) × Int) : Prop := CallOK cx 44 (f44_A x1) (f44_K x1) [] (f44_v r) (f44_k x1 r)

def f78_M : List Nat := []
noncomputable def f78_v : Bool → G := fun y0 => (GB y0)
noncomputable def f78_k0 : Bool → List (Nat × Blk) := fun y0 => []
noncomputable def f78_k (x1 : Int) : Bool → List (Nat × Blk) := fun y0 => []
noncomputable def f78_A (x1 : Int) : List G := [(GI x1)]
noncomputable def f78_K (x1 : Int) : List (Nat × Blk) := []
def f78_C (x1 : Int) (r : Bool) : Prop := CallOK cx 78 (f78_A x1) (f78_K x1) [] (f78_v r) (f78_k x1 r)

def f85_1_M : List Nat := []
noncomputable def f85_1_p1_H (x1 : List Int) (x2 : Int) : GS := ⟨[(0, (GL x1)), (1, (.r (.at (.fn 78)))), (7, (.r (.at (.int .i64 ((List.length x1 : Nat) : Int))))), (8, (GI x2))], []⟩
noncomputable def f85_1_p1_x : f85_1_p1_R → GExit := fun
  | .c0 y0 => .ret
  | .c1 => (.exit 0)
noncomputable def f85_1_p1_s (x1 : List Int) : f85_1_p1_R → GS := fun
  | .c0 y0 => ⟨[(4, (GI y0))], []⟩
  | .c1 => ⟨[], []⟩
def f85_1_p1_P (x1 : List Int) (x2 : Int) (r : f85_1_p1_R) : Prop := Lp cx f85_1_M 19 (part Try.f85 1) (f85_1_p1_H x1 x2) (f85_1_p1_x r) (f85_1_p1_s x1 r)
noncomputable def f85_1_v : Int → G := fun y0 => (GI y0)
noncomputable def f85_1_k0 : Int → List (Nat × Blk) := fun y0 => []
noncomputable def f85_1_k (x1 : List Int) : Int → List (Nat × Blk) := fun y0 => []
noncomputable def f85_1_A (x1 : List Int) : List G := [(GL x1), (.r (.at (.fn 78)))]
noncomputable def f85_1_K (x1 : List Int) : List (Nat × Blk) := []
def f85_1_C (x1 : List Int) (r : Int) : Prop := CallOK cx 85 (f85_1_A x1) (f85_1_K x1) [] (f85_1_v r) (f85_1_k x1 r)

def f63_1_M : List Nat := []
noncomputable def f63_1_v : Bool → G := fun y0 => (GB y0)
noncomputable def f63_1_k0 : Bool → List (Nat × Blk) := fun y0 => []
noncomputable def f63_1_k (x1 : List Int) : Bool → List (Nat × Blk) := fun y0 => []
noncomputable def f63_1_A (x1 : List Int) : List G := [(GL x1), (.r (.at (.fn 78)))]
noncomputable def f63_1_K (x1 : List Int) : List (Nat × Blk) := []
def f63_1_C (x1 : List Int) (r : Bool) : Prop := CallOK cx 63 (f63_1_A x1) (f63_1_K x1) [] (f63_1_v r) (f63_1_k x1 r)

def f46_M : List Nat := [38, 39]
noncomputable def f46_p8_1_H (x14 : Int) (x1 : List Int) (x16 x20 : Int) (x21 : List Int) : GS := ⟨[(5, (.r (.at (.ptr 38 0 0)))), (6, (GI x14)), (27, (GL x1)), (28, (.r (.at (.int .i64 ((List.length x1 : Nat) : Int))))), (29, (GI x14)), (43, (.r (.at (.int .i64 (w64 (Int.tdiv x16 2)))))), (44, (GI x20))], [(38, (.var [.arr (.int .i64) 31 x21]))]⟩
noncomputable def f46_p8_1_x : (List Int) → GExit := fun y0 => (.exit 3)
noncomputable def f46_p8_1_s (x14 : Int) (x1 : List Int) (x16 : Int) : (List Int) → GS := fun y0 => ⟨[(5, (.r (.at (.ptr 38 0 0)))), (27, (GL x1)), (28, (.r (.at (.int .i64 ((List.length x1 : Nat) : Int))))), (29, (GI x14))], [(38, (.var [.arr (.int .i64) 31 y0]))]⟩
def f46_p8_1_P (x14 : Int) (x1 : List Int) (x16 x20 : Int) (x21 : List Int) (r : (List Int)) : Prop := Lp cx f46_M 70 (part Try.f46 8) (f46_p8_1_H x14 x1 x16 x20 x21) (f46_p8_1_x r) (f46_p8_1_s x14 x1 x16 r)
noncomputable def f46_p4_H (x1 : List Int) (x14 : Int) (x15 : List Int) : GS := ⟨[(5, (.r (.at (.ptr 38 0 0)))), (27, (GL x1)), (28, (.r (.at (.int .i64 ((List.length x1 : Nat) : Int))))), (29, (GI x14))], [(38, (.var [.arr (.int .i64) 31 x15]))]⟩
noncomputable def f46_p4_x : (List Int) → GExit := fun y0 => (.exit 1)
noncomputable def f46_p4_s (x1 : List Int) : (List Int) → GS := fun y0 => ⟨[(5, (.r (.at (.ptr 38 0 0))))], [(38, (.var [.arr (.int .i64) 31 y0]))]⟩
def f46_p4_P (x1 : List Int) (x14 : Int) (x15 : List Int) (r : (List Int)) : Prop := Lp cx f46_M 70 (part Try.f46 4) (f46_p4_H x1 x14 x15) (f46_p4_x r) (f46_p4_s x1 r)
noncomputable def f46_p15_1_H (x27 x24 : List Int) (x28 : Int) : GS := ⟨[(10, (.r (.at (.sl 39 0 (List.length x27))))), (12, (.r (.at (.int .i64 ((x24)[(Int.toNat x28)]?.getD 0))))), (58, (.r (.agg [.arr (.int .i64) 31 x24]))), (59, (GI x28)), (63, (.r (.at (.bool (decide (((x24)[(Int.toNat x28)]?.getD 0) > 0))))))], [(39, (.gr (.int .i64) 3 x27 true))]⟩
noncomputable def f46_p15_1_x : (List Int) → GExit := fun y0 => .normal
noncomputable def f46_p15_1_s (x27 x24 : List Int) (x28 : Int) : (List Int) → GS := fun y0 => ⟨[(10, (.r (.at (.sl 39 0 (List.length y0))))), (58, (.r (.agg [.arr (.int .i64) 31 x24]))), (59, (GI x28))], [(39, (.gr (.int .i64) 3 y0 true))]⟩
def f46_p15_1_P (x27 x24 : List Int) (x28 : Int) (r : (List Int)) : Prop := Ex cx f46_M 70 (part Try.f46 15) (f46_p15_1_H x27 x24 x28) (f46_p15_1_x r) (f46_p15_1_s x27 x24 x28 r)
noncomputable def f46_p12_H (x24 : List Int) (x28 : Int) (x27 : List Int) : GS := ⟨[(10, (.r (.at (.sl 39 0 (List.length x27))))), (58, (.r (.agg [.arr (.int .i64) 31 x24]))), (59, (GI x28))], [(39, (.gr (.int .i64) 3 x27 true))]⟩
noncomputable def f46_p12_x : (List Int) → GExit := fun y0 => (.exit 5)
noncomputable def f46_p12_s (x24 : List Int) : (List Int) → GS := fun y0 => ⟨[(10, (.r (.at (.sl 39 0 (List.length y0)))))], [(39, (.gr (.int .i64) 3 y0 true))]⟩
def f46_p12_P (x24 : List Int) (x28 : Int) (x27 : List Int) (r : (List Int)) : Prop := Lp cx f46_M 70 (part Try.f46 12) (f46_p12_H x24 x28 x27) (f46_p12_x r) (f46_p12_s x24 r)
noncomputable def f46_v : ((List Int) × Int) → G := fun (y0, y1) => (.tup [(.at (.lst (.int .i64) y0 false)), (.at (.int .i64 y1))])
noncomputable def f46_k0 : ((List Int) × Int) → List (Nat × Blk) := fun (y0, y1) => []
noncomputable def f46_k (x1 : List Int) : ((List Int) × Int) → List (Nat × Blk) := fun (y0, y1) => []
noncomputable def f46_A (x1 : List Int) : List G := [(GL x1)]
noncomputable def f46_K (x1 : List Int) : List (Nat × Blk) := []
def f46_C (x1 : List Int) (r : (List Int) × Int) : Prop := CallOK cx 46 (f46_A x1) (f46_K x1) [] (f46_v r) (f46_k x1 r)

def f19_M : List Nat := []
noncomputable def f19_v : Bool → G := fun y0 => (GB y0)
noncomputable def f19_k0 : Bool → List (Nat × Blk) := fun y0 => []
noncomputable def f19_k : Bool → List (Nat × Blk) := fun y0 => []
noncomputable def f19_A : List G := []
noncomputable def f19_K : List (Nat × Blk) := []
def f19_C (r : Bool) : Prop := CallOK cx 19 (f19_A) (f19_K) [] (f19_v r) (f19_k r)

def f13_M : List Nat := []
noncomputable def f13_r3_H (x2 : Int) (x3 x4 x5 : List Int) (x6 : Int) (x7 x8 : List Int) (x9 : Int) : GS := ⟨[(1, (.r (.at (.int .u8 x2)))), (2, (.r (.at (.lst (.int .u8) x3 false)))), (3, (.r (.at (.lst (.int .u8) x4 false)))), (9, (GL x5)), (10, (GI x6)), (11, (GL x7)), (12, (GL x8)), (13, (GI x9))], []⟩
noncomputable def f13_r3_x : Bool → GExit := fun y0 => .normal
noncomputable def f13_r3_s (x2 : Int) (x3 x4 x5 : List Int) (x6 : Int) (x7 x8 : List Int) (x9 : Int) : Bool → GS := fun y0 => ⟨[(1, (.r (.at (.int .u8 x2)))), (2, (.r (.at (.lst (.int .u8) x3 false)))), (3, (.r (.at (.lst (.int .u8) x4 false)))), (9, (GL x5)), (10, (GI x6)), (11, (GL x7)), (12, (GL x8)), (92, (GB y0))], []⟩
def f13_r3_P (x2 : Int) (x3 x4 x5 : List Int) (x6 : Int) (x7 x8 : List Int) (x9 : Int) (r : Bool) : Prop := Ex cx f13_M 270 (rgnF 3 Try.f13) (f13_r3_H x2 x3 x4 x5 x6 x7 x8 x9) (f13_r3_x r) (f13_r3_s x2 x3 x4 x5 x6 x7 x8 x9 r)
noncomputable def f13_p5_H (x2 : Int) (x3 x4 x5 : List Int) (x6 : Int) (x7 x8 : List Int) (x18 : Int) : GS := ⟨[(1, (.r (.at (.int .u8 x2)))), (2, (.r (.at (.lst (.int .u8) x3 false)))), (3, (.r (.at (.lst (.int .u8) x4 false)))), (9, (GL x5)), (10, (GI x6)), (11, (GL x7)), (12, (GL x8)), (14, (GI x18)), (15, (.r (.at (.int .i64 0)))), (93, (GI x6)), (94, (GI x18)), (100, (.r (.at (.bool (decide (x18 < ((List.length x7 : Nat) : Int)))))))], []⟩
noncomputable def f13_p5_x : Int → GExit := fun y0 => .normal
noncomputable def f13_p5_s (x2 : Int) (x3 x4 x5 : List Int) (x6 : Int) (x7 x8 : List Int) (x18 : Int) : Int → GS := fun y0 => ⟨[(1, (.r (.at (.int .u8 x2)))), (2, (.r (.at (.lst (.int .u8) x3 false)))), (3, (.r (.at (.lst (.int .u8) x4 false)))), (9, (GL x5)), (10, (GI x6)), (11, (GL x7)), (12, (GL x8)), (14, (GI x18)), (15, (GI y0)), (93, (GI x6)), (94, (GI x18))], []⟩
def f13_p5_P (x2 : Int) (x3 x4 x5 : List Int) (x6 : Int) (x7 x8 : List Int) (x18 : Int) (r : Int) : Prop := Ex cx f13_M 270 (part Try.f13 5) (f13_p5_H x2 x3 x4 x5 x6 x7 x8 x18) (f13_p5_x r) (f13_p5_s x2 x3 x4 x5 x6 x7 x8 x18 r)
noncomputable def f13_p2_H (x2 : Int) (x3 x4 x5 : List Int) (x6 : Int) (x7 x8 : List Int) (x18 : Int) : GS := ⟨[(1, (.r (.at (.int .u8 x2)))), (2, (.r (.at (.lst (.int .u8) x3 false)))), (3, (.r (.at (.lst (.int .u8) x4 false)))), (9, (GL x5)), (10, (GI x6)), (11, (GL x7)), (12, (GL x8)), (93, (GI x6)), (94, (GI x18))], []⟩
noncomputable def f13_p2_x : f13_p2_R → GExit := fun
  | .c0 => .ret
  | .c1 => (.exit 0)
noncomputable def f13_p2_s (x2 : Int) (x3 x4 x5 : List Int) (x6 : Int) (x7 x8 : List Int) : f13_p2_R → GS := fun
  | .c0 => ⟨[(8, (.r (.at (.bool false))))], []⟩
  | .c1 => ⟨[(1, (.r (.at (.int .u8 x2)))), (2, (.r (.at (.lst (.int .u8) x3 false)))), (3, (.r (.at (.lst (.int .u8) x4 false)))), (9, (GL x5)), (10, (GI x6)), (11, (GL x7)), (12, (GL x8))], []⟩
def f13_p2_P (x2 : Int) (x3 x4 x5 : List Int) (x6 : Int) (x7 x8 : List Int) (x18 : Int) (r : f13_p2_R) : Prop := Lp cx f13_M 270 (part Try.f13 2) (f13_p2_H x2 x3 x4 x5 x6 x7 x8 x18) (f13_p2_x r) (f13_p2_s x2 x3 x4 x5 x6 x7 x8 r)
noncomputable def f13_r27_H (x2 : Int) (x37 x38 x39 : List Int) (x40 : Int) : GS := ⟨[(25, (.r (.at (.int .i64 (Int.tmod (w64 (x2)) 6))))), (26, (GL x37)), (27, (GL x38)), (28, (GL x39)), (29, (GI x40)), (30, (.r (.at (.int .i64 0))))], []⟩
noncomputable def f13_r27_x : Bool → GExit := fun y0 => .normal
noncomputable def f13_r27_s (x2 : Int) (x37 x38 x39 : List Int) (x40 : Int) : Bool → GS := fun y0 => ⟨[(25, (.r (.at (.int .i64 (Int.tmod (w64 (x2)) 6))))), (26, (GL x37)), (27, (GL x38)), (28, (GL x39)), (29, (GI x40)), (30, (.r (.at (.int .i64 0)))), (221, (GB y0))], []⟩
def f13_r27_P (x2 : Int) (x37 x38 x39 : List Int) (x40 : Int) (r : Bool) : Prop := Ex cx f13_M 270 (rgnF 27 Try.f13) (f13_r27_H x2 x37 x38 x39 x40) (f13_r27_x r) (f13_r27_s x2 x37 x38 x39 x40 r)
noncomputable def f13_p10_H (x2 : Int) (x37 x38 x39 : List Int) (x40 x43 x44 : Int) : GS := ⟨[(25, (.r (.at (.int .i64 (Int.tmod (w64 (x2)) 6))))), (26, (GL x37)), (27, (GL x38)), (28, (GL x39)), (29, (GI x40)), (30, (.r (.at (.int .i64 0)))), (231, (.r (.at (.bool (decide ((w64 ((w64 ((w64 ((Int.tmod (w64 (x2)) 6) * (Int.tmod (w64 (x2)) 6))) + x43)) + x44)) > 30))))))], []⟩
noncomputable def f13_p10_x : Int → GExit := fun y0 => .normal
noncomputable def f13_p10_s (x2 : Int) (x37 x38 x39 : List Int) (x40 x43 x44 : Int) : Int → GS := fun y0 => ⟨[(25, (.r (.at (.int .i64 (Int.tmod (w64 (x2)) 6))))), (26, (GL x37)), (27, (GL x38)), (28, (GL x39)), (29, (GI x40)), (30, (GI y0))], []⟩
def f13_p10_P (x2 : Int) (x37 x38 x39 : List Int) (x40 x43 x44 : Int) (r : Int) : Prop := Ex cx f13_M 270 (part Try.f13 10) (f13_p10_H x2 x37 x38 x39 x40 x43 x44) (f13_p10_x r) (f13_p10_s x2 x37 x38 x39 x40 x43 x44 r)
noncomputable def f13_p9_H (x2 : Int) (x37 x38 x39 : List Int) (x40 : Int) (x42 : Bool) : GS := ⟨[(25, (.r (.at (.int .i64 (Int.tmod (w64 (x2)) 6))))), (26, (GL x37)), (27, (GL x38)), (28, (GL x39)), (29, (GI x40)), (30, (.r (.at (.int .i64 0)))), (221, (GB x42))], []⟩
noncomputable def f13_p9_x : Int → GExit := fun y0 => .normal
noncomputable def f13_p9_s (x2 : Int) (x37 x38 x39 : List Int) (x40 : Int) (x42 : Bool) : Int → GS := fun y0 => ⟨[(25, (.r (.at (.int .i64 (Int.tmod (w64 (x2)) 6))))), (26, (GL x37)), (27, (GL x38)), (28, (GL x39)), (29, (GI x40)), (30, (GI y0))], []⟩
def f13_p9_P (x2 : Int) (x37 x38 x39 : List Int) (x40 : Int) (x42 : Bool) (r : Int) : Prop := Ex cx f13_M 270 (part Try.f13 9) (f13_p9_H x2 x37 x38 x39 x40 x42) (f13_p9_x r) (f13_p9_s x2 x37 x38 x39 x40 x42 r)
noncomputable def f13_v : Bool → G := fun y0 => (GB y0)
noncomputable def f13_k0 : Bool → List (Nat × Blk) := fun y0 => []
noncomputable def f13_k (x1 : List Int) (x2 : Int) (x3 x4 : List Int) : Bool → List (Nat × Blk) := fun y0 => []
noncomputable def f13_A (x1 : List Int) (x2 : Int) (x3 x4 : List Int) : List G := [(.r (.at (.lst (.int .u8) x1 false))), (.r (.at (.int .u8 x2))), (.r (.at (.lst (.int .u8) x3 false))), (.r (.at (.lst (.int .u8) x4 false)))]
noncomputable def f13_K (x1 : List Int) (x2 : Int) (x3 x4 : List Int) : List (Nat × Blk) := []
def f13_C (x1 : List Int) (x2 : Int) (x3 x4 : List Int) (r : Bool) : Prop := CallOK cx 13 (f13_A x1 x2 x3 x4) (f13_K x1 x2 x3 x4) [] (f13_v r) (f13_k x1 x2 x3 x4 r)

end Go.Gh.Bunch
