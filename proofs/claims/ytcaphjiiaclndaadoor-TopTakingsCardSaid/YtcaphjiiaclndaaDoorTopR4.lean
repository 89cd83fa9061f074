/- TopR4: the law TopTakings: all 2904 cases. -/
import Derived.Test.YtcaphjiiaclndaaDoorTopP4
namespace Go.Gh.Top
set_option linter.unusedVariables false
set_option linter.unusedSimpArgs false

theorem fine0 : ∀ b : Fin 4, ∀ c : Fin 11, ∀ m : Fin 6, fine 0 b.val c.val m.val = true := by decide +kernel
theorem fine1 : ∀ b : Fin 4, ∀ c : Fin 11, ∀ m : Fin 6, fine 1 b.val c.val m.val = true := by decide +kernel
theorem fine2 : ∀ b : Fin 4, ∀ c : Fin 11, ∀ m : Fin 6, fine 2 b.val c.val m.val = true := by decide +kernel
theorem fine3 : ∀ b : Fin 4, ∀ c : Fin 11, ∀ m : Fin 6, fine 3 b.val c.val m.val = true := by decide +kernel
theorem fine4 : ∀ b : Fin 4, ∀ c : Fin 11, ∀ m : Fin 6, fine 4 b.val c.val m.val = true := by decide +kernel
theorem fine5 : ∀ b : Fin 4, ∀ c : Fin 11, ∀ m : Fin 6, fine 5 b.val c.val m.val = true := by decide +kernel
theorem fine6 : ∀ b : Fin 4, ∀ c : Fin 11, ∀ m : Fin 6, fine 6 b.val c.val m.val = true := by decide +kernel
theorem fine7 : ∀ b : Fin 4, ∀ c : Fin 11, ∀ m : Fin 6, fine 7 b.val c.val m.val = true := by decide +kernel
theorem fine8 : ∀ b : Fin 4, ∀ c : Fin 11, ∀ m : Fin 6, fine 8 b.val c.val m.val = true := by decide +kernel
theorem fine9 : ∀ b : Fin 4, ∀ c : Fin 11, ∀ m : Fin 6, fine 9 b.val c.val m.val = true := by decide +kernel
theorem fine10 : ∀ b : Fin 4, ∀ c : Fin 11, ∀ m : Fin 6, fine 10 b.val c.val m.val = true := by decide +kernel

theorem fine_all (n : Fin 11) (b : Fin 4) (c : Fin 11) (m : Fin 6) : fine n.val b.val c.val m.val = true := by
  match n with
  | ⟨0, _⟩ => exact fine0 b c m
  | ⟨1, _⟩ => exact fine1 b c m
  | ⟨2, _⟩ => exact fine2 b c m
  | ⟨3, _⟩ => exact fine3 b c m
  | ⟨4, _⟩ => exact fine4 b c m
  | ⟨5, _⟩ => exact fine5 b c m
  | ⟨6, _⟩ => exact fine6 b c m
  | ⟨7, _⟩ => exact fine7 b c m
  | ⟨8, _⟩ => exact fine8 b c m
  | ⟨9, _⟩ => exact fine9 b c m
  | ⟨10, _⟩ => exact fine10 b c m

theorem rem_of {a : Int} (ha : 0 ≤ a ∧ a ≤ 255) (q : Nat) (hq : 0 < q) : ∃ i : Fin q, Int.tmod (w64 a) (q : Int) = (i.val : Int) := by
  have h0 : 0 ≤ a.tmod q := Int.tmod_nonneg _ ha.1
  have h1 : a.tmod q < q := Int.tmod_lt_of_pos _ (by omega)
  exact ⟨⟨(a.tmod q).toNat, by omega⟩, by rw [w64_in (by omega)]; show a.tmod q = (((a.tmod q).toNat : Nat) : Int); omega⟩

theorem f4_plain (x1 x2 x3 x4 : Int) (h1 : 0 ≤ x1 ∧ x1 ≤ 255) (h2 : 0 ≤ x2 ∧ x2 ≤ 255) (h3 : 0 ≤ x3 ∧ x3 ≤ 255) (h4 : 0 ≤ x4 ∧ x4 ≤ 255) : f4 1100 x1 x2 x3 x4 = some true := by
  obtain ⟨n, e1⟩ := rem_of h1 11 (by omega)
  obtain ⟨b, e2⟩ := rem_of h2 4 (by omega)
  obtain ⟨c, e3⟩ := rem_of h3 11 (by omega)
  obtain ⟨m, e4⟩ := rem_of h4 6 (by omega)
  exact f4_of n c m b x1 x2 x3 x4 e1 e2 e3 e4 (fine_all n b c m)

end Go.Gh.Top
