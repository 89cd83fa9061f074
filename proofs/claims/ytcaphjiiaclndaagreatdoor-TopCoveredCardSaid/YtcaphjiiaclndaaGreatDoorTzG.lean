/- Tz: what the rows' list of variables gives: the two tables stand as laid. -/
import Derived.Test.YtcaphjiiaclndaaGreatDoorRows
import Derived.Test.YtcaphjiiaclndaaGreatDoorTzA
import Derived.ProofKit
import Derived.WalkKit
import Derived.OpenShut
import Derived.Lib.LaidTab
import Derived.LaidSub
namespace Go.Gh.Tz
set_option linter.unusedVariables false
set_option linter.unusedSimpArgs false
open Go.Proofs Go.Proofs.YtcaphjiiaclndaaGreatDoor

theorem g32 : Tryz.prog.globalNamed "math/bits.deBruijn32tab" = some 1 := by kernel_rfl
theorem g64 : Tryz.prog.globalNamed "math/bits.deBruijn64tab" = some 2 := by kernel_rfl
theorem ty32 : (Tryz.prog.globals[1]?).map (·.type) = some 175 := by kernel_rfl
theorem ty64 : (Tryz.prog.globals[2]?).map (·.type) = some 176 := by kernel_rfl

def laidAll : List (String × DataW Unit) := [("math/bits.deBruijn32tab", Rows.laid_math_bits_deBruijn32tab), ("math/bits.deBruijn64tab", Rows.laid_math_bits_deBruijn64tab)]

theorem tab32_is {W : World} (h : laidMet Tryz.prog laidAll W) : Lib.TabIs Tryz.prog W "math/bits.deBruijn32tab" .u8 tb32 :=
 Lib.tabIs_of_head (rest := [("math/bits.deBruijn64tab", Rows.laid_math_bits_deBruijn64tab)]) (t := 175) (e := 5) (n := 32) g32 ty32 (by kernel_rfl) (by kernel_rfl) (by kernel_rfl) (by kernel_rfl) h

theorem tab64_is {W : World} (h : laidMet Tryz.prog laidAll W) : Lib.TabIs Tryz.prog W "math/bits.deBruijn64tab" .u8 tb64 := by
 have h2 := h.filter (fun x => x.1 == "math/bits.deBruijn64tab")
 rw [show laidAll.filter (fun x => x.1 == "math/bits.deBruijn64tab") = [("math/bits.deBruijn64tab", Rows.laid_math_bits_deBruijn64tab)] from by kernel_rfl] at h2
 exact Lib.tabIs_of_head (rest := []) (t := 176) (e := 5) (n := 64) g64 ty64 (by kernel_rfl) (by kernel_rfl) (by kernel_rfl) (by kernel_rfl) h2

theorem repInts (w : World) (own : Nat → Prop) (k : IntKind) : ∀ zs : List Int, RepAll w own (.int k) zs (zs.map (Value.int k))
 | [] => rfl
 | z :: zs => ⟨[.int k z], _, rfl, rfl, repInts w own k zs⟩

theorem ipa_of {μ : Map} {w : World} {own : Nat → Prop} {name : String} {zs : List Int} {g : Nat} (hg : Tryz.prog.globalNamed name = some g) (h : Lib.TabIs Tryz.prog w name .u8 zs) (ho : ¬ own g) :
  VA μ w own (.ipa (.int .u8) zs) (.pointer (some ⟨g, 0, none⟩)) := by
 refine ⟨trivial, ⟨g, 0, none⟩, zs.map (Value.int .u8), rfl, rfl, repInts w own .u8 zs, fun j u hu => ⟨ho, ?_⟩⟩
 rw [List.getElem?_map] at hu
 cases hz : zs[j]? with
 | none => rw [hz] at hu; cases hu
 | some z =>
  rw [hz] at hu; cases hu
  have hj := (List.getElem?_eq_some_iff.1 hz).1
  have := h.cell hg j hj
  rw [Nat.zero_add, this]
  simp [List.getD, hz]

theorem glob {W : World} (h : laidMet Tryz.prog laidAll W) : Glob cx ⟨fun _ => none, fun _ => False, 0⟩ W (mapOf []) := by
 have ho : ∀ b, ¬ ownOf ⟨fun _ => none, fun _ => False, 0⟩ (mapOf []) b := by
  rintro b (h | ⟨n, l, h, _⟩)
  ·exact h
  ·exact h rfl
 intro g
 match g with
 | 0 => trivial
 | 1 => exact ipa_of g32 (tab32_is h) (ho _)
 | 2 => exact ipa_of g64 (tab64_is h) (ho _)
 | _ + 3 => trivial

end Go.Gh.Tz
