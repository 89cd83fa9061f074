/- The plain law of HatHamming: three perfect codes are looked at, by the kernel. -/
import Derived.Test.YtmkejpdmaclkpaaDoorHatW
import Derived.WalkKit
namespace Go.Gh.Hat
set_option linter.unusedVariables false
set_option linter.unusedSimpArgs false
open Go

theorem f7_of (F : Nat) (x1 x2 x3 n : Int) (L M : List Int) (a : Int) (b : List (List Int)) (w : List Int)
    (hx : at? ([1, 3, 7] : List Int) (Int.tmod x1 3) = some n)
    (h1 : f23 F n = some (L, 0)) (h2 : f15 F n L = some (M, 0)) (h3 : f19 F n L = some (a, b, 0)) (hn : 0 ≤ n)
    (c1 : w64 (((List.length L : Nat) : Int) * (w64 (n + 1))) = iShl .i64 1 n) (c2 : ((List.length M : Nat) : Int) = iShl .i64 1 n)
    (h4 : f7_p2 F x2 x3 n L M a b F 0 = some .c1) (h5 : f32 F a b = some (w, 0)) (c3 : ((List.length w : Nat) : Int) = w64 (((List.length L : Nat) : Int) * n))
    (h6 : f36 F L 0 = some true) (h7 : ((List.length L : Nat) : Int) ≠ 0) (u v : Int)
    (h8 : at? L (Int.tmod (w64 x2) ((List.length L : Nat) : Int)) = some u) (h9 : at? L (Int.tmod (w64 x3) ((List.length L : Nat) : Int)) = some v)
    (h10 : f36 F L (iXor .i64 u v) = some true) (h14 : f14 F = some true) : f7 F x1 x2 x3 = some true := by
  have h42 : f42 F ([1, 3, 7] : List Int) = some ([1, 3, 7] : List Int) := rfl
  unfold f7
  simp only [h42, hx, h1, h2, h3, Option.bind_some, req, hn, c1, c2, h4, h5, c3, h6, h8, h9, h10, h14, bne_self_eq_false, Bool.false_eq_true, if_false, if_true, beq_self_eq_true, dite_true, ne_eq, h7, not_false_eq_true]

theorem works : f14 1000 = some true := by decide +kernel

def pairs (L : List Int) (n : Nat) : Bool := (List.range n).all fun i => (List.range n).all fun j =>
  match at? L (i : Int), at? L (j : Int) with
  | some u, some v => f36 1000 L (iXor .i64 u v) == some true
  | _, _ => false

theorem pairs_at {L : List Int} {n : Nat} (h : pairs L n = true) {i j : Int} (hi : 0 ≤ i ∧ i < n) (hj : 0 ≤ j ∧ j < n) :
    ∃ u v, at? L i = some u ∧ at? L j = some v ∧ f36 1000 L (iXor .i64 u v) = some true := by
  have h1 := List.all_eq_true.1 h i.toNat (by simp; omega)
  have h2 := List.all_eq_true.1 h1 j.toNat (by simp; omega)
  rw [Int.toNat_of_nonneg hi.1, Int.toNat_of_nonneg hj.1] at h2
  split at h2
  · rename_i u v hu hv
    exact ⟨u, v, hu, hv, by simpa using h2⟩
  · cases h2

theorem tmod_lt {x : Int} {n : Nat} (hn : 0 < n) (h0 : 0 ≤ x) (h1 : x ≤ 255) : 0 ≤ Int.tmod (w64 x) (n : Int) ∧ Int.tmod (w64 x) (n : Int) < n := by
  rw [w64_in (by omega), Int.tmod_eq_emod_of_nonneg h0]
  exact ⟨Int.emod_nonneg _ (by omega), Int.emod_lt_of_pos _ (by omega)⟩

def L1 : List Int := [0]
def r1 : Int × List (List Int) × Int := (f19 1000 1 L1).getD (0, [], 0)
def w1 : List Int := ((f32 1000 r1.1 r1.2.1).getD ([], 0)).1

theorem f7_1 (x1 x2 x3 : Int) (hx : Int.tmod x1 3 = 0) (h0 : 0 ≤ x2) (h1 : x2 ≤ 255) (k0 : 0 ≤ x3) (k1 : x3 ≤ 255) : f7 1000 x1 x2 x3 = some true := by
  obtain ⟨u, v, e1, e2, e3⟩ := pairs_at (L := L1) (n := 1) (by decide +kernel) (tmod_lt (n := 1) (by decide) h0 h1) (tmod_lt (n := 1) (by decide) k0 k1)
  exact f7_of 1000 x1 x2 x3 1 L1 (List.replicate 2 1) r1.1 r1.2.1 w1 (by rw [hx]; rfl) (by decide +kernel) (by decide +kernel) (by decide +kernel) (by decide) (by decide +kernel) (by decide +kernel)
    (by kernel_rfl) (by decide +kernel) (by decide +kernel) (by decide +kernel) (by decide +kernel) u v e1 e2 e3 works

def L3 : List Int := [0, 7]
def r3 : Int × List (List Int) × Int := (f19 1000 3 L3).getD (0, [], 0)
def w3 : List Int := ((f32 1000 r3.1 r3.2.1).getD ([], 0)).1

theorem f7_3 (x1 x2 x3 : Int) (hx : Int.tmod x1 3 = 1) (h0 : 0 ≤ x2) (h1 : x2 ≤ 255) (k0 : 0 ≤ x3) (k1 : x3 ≤ 255) : f7 1000 x1 x2 x3 = some true := by
  obtain ⟨u, v, e1, e2, e3⟩ := pairs_at (L := L3) (n := 2) (by decide +kernel) (tmod_lt (n := 2) (by decide) h0 h1) (tmod_lt (n := 2) (by decide) k0 k1)
  exact f7_of 1000 x1 x2 x3 3 L3 (List.replicate 8 1) r3.1 r3.2.1 w3 (by rw [hx]; rfl) (by decide +kernel) (by decide +kernel) (by decide +kernel) (by decide) (by decide +kernel) (by decide +kernel)
    (by kernel_rfl) (by decide +kernel) (by decide +kernel) (by decide +kernel) (by decide +kernel) u v e1 e2 e3 works

def L7 : List Int := [0, 7, 25, 30, 42, 45, 51, 52, 75, 76, 82, 85, 97, 102, 120, 127]
def r7 : Int × List (List Int) × Int := (f19 1000 7 L7).getD (0, [], 0)
def w7 : List Int := ((f32 1000 r7.1 r7.2.1).getD ([], 0)).1

theorem f7_7 (x1 x2 x3 : Int) (hx : Int.tmod x1 3 = 2) (h0 : 0 ≤ x2) (h1 : x2 ≤ 255) (k0 : 0 ≤ x3) (k1 : x3 ≤ 255) : f7 1000 x1 x2 x3 = some true := by
  obtain ⟨u, v, e1, e2, e3⟩ := pairs_at (L := L7) (n := 16) (by decide +kernel) (tmod_lt (n := 16) (by decide) h0 h1) (tmod_lt (n := 16) (by decide) k0 k1)
  exact f7_of 1000 x1 x2 x3 7 L7 (List.replicate 128 1) r7.1 r7.2.1 w7 (by rw [hx]; rfl) (by decide +kernel) (by decide +kernel) (by decide +kernel) (by decide) (by decide +kernel) (by decide +kernel)
    (by kernel_rfl) (by decide +kernel) (by decide +kernel) (by decide +kernel) (by decide +kernel) u v e1 e2 e3 works

theorem f7_plain (x1 x2 x3 : Int) (a0 : 0 ≤ x1) (a1 : x1 ≤ 255) (h0 : 0 ≤ x2) (h1 : x2 ≤ 255) (k0 : 0 ≤ x3) (k1 : x3 ≤ 255) : f7 1000 x1 x2 x3 = some true := by
  have hm : Int.tmod x1 3 = 0 ∨ Int.tmod x1 3 = 1 ∨ Int.tmod x1 3 = 2 := by
    rw [Int.tmod_eq_emod_of_nonneg a0]; omega
  rcases hm with h | h | h
  · exact f7_1 x1 x2 x3 h h0 h1 k0 k1
  · exact f7_3 x1 x2 x3 h h0 h1 k0 k1
  · exact f7_7 x1 x2 x3 h h0 h1 k0 k1

end Go.Gh.Hat
