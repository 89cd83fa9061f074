/- The law packetFills: the walk and the plain law are joined. -/
import Derived.Test.YtkjlgbnbpeijbaaRows
import Derived.Test.YtkjlgbnbpeijbaaPack13F1
import Derived.Test.YtkjlgbnbpeijbaaPackP13
import Derived.ProofKit
import Derived.WalkKit
import Derived.OpenShut
namespace Go.Proofs.Ytkjlgbnbpeijbaa.packetFills
set_option linter.unusedVariables false
set_option linter.unusedSimpArgs false
open Go.ChangeShapes Go.WideShapes Go.ChangeAt Go.RowKit
open Go.Gh Go.Gh.Pack

theorem own : ownKnob Try.prog.godebug = none := by kernel_rfl

def pars : List (Bool × List Sp) := [(false, [.one (.list (.int .i64))]), (false, [.one (.list (.int .i64))]), (false, [.one (.int .i64)]), (false, [.one (.list (.int .i64))])]

theorem law : ∀ gs, Go.Gh.ArgRel pars gs → CallOK cx 13 gs [] [] (.r (.at (.bool true))) [] := by
 intro gs h
 obtain ⟨_, _, rfl, ⟨a0, _, hg0, h0, rfl⟩, ⟨_, _, rfl, ⟨a1, _, hg1, h1, rfl⟩, ⟨_, _, rfl, ⟨a2, _, hg2, h2, rfl⟩, ⟨_, _, rfl, ⟨a3, _, hg3, h3, rfl⟩, rfl⟩⟩⟩⟩ := h
 cases hg0
 cases hg1
 cases hg2
 have h2 : @LE.le Int _ (-9223372036854775808) a2 ∧ @LE.le Int _ a2 9223372036854775807 := h2
 cases hg3
 exact f13_ok 2100 a0 a1 a2 a3 true (f13_plain a0 a1 a2 a3)


set_option maxRecDepth 100000 in
theorem contract (H : Type) (enc : TypeId × Value → H) (W : World) (base : Nat) (args : Array Value) (ds gs : List (DataW H)) (before : List MemPlace)
  (hval : ∀ (j : Nat) t v, Try.f13.params[j]? = some t → args[j]? = some v → Value.okWide Try.prog W .any base t v)
  (hW : DataW.Whole enc Try.prog Try.f13.params.toList Rows.packetFillsSpec.vars false W args.toList ds gs before) :
  Calls Try.prog 13 args W fun e W' => ∃ v, e = .returned v ∧ Rows.packetFillsSpec.post enc Try.prog Try.f13 false true false false W args v W' :=
 law_contract (cx := cx) (s := Rows.packetFillsSpec) (pars := pars) cxOK lawOK glU (by kernel_rfl) (by kernel_rfl) rfl (by kernel_rfl) rfl law H
  (fun ds h => by
   have h : ds.length = Try.f13.params.size := h
   rw [show Try.f13.params.size = 4 from by kernel_rfl] at h
   match ds, h with | [d0, d1, d2, d3], _ => rfl) enc W base args ds gs before hval hW

set_option maxRecDepth 100000 in
theorem lifted (os : Os) (started : os.Started) (H : Type) (enc : TypeId × Value → H) :
  ReturnsInHanded {} Try.checked os 13 .any (Rows.packetFillsSpec.pre6 enc Try.prog Try.f13 Rows.packetFillsRow.domain false) (Rows.packetFillsSpec.post enc Try.prog Try.f13 false true false false) := by
 refine returnsInHanded_of_change (C := Try.checked) own started (by kernel_rfl) Try.func13
  (ChangeSpec.witness6 (enc := enc) (C := Try.checked) false ⟨#[], #[.slice none 0 0, .slice none 0 0, .int .i64 0, .slice none 0 0], []⟩ 8 (by kernel_rfl) (by kernel_rfl) (by kernel_rfl) (by kernel_rfl)) ?_
 intro W base args ds gs before hval hW _ _
 exact contract H enc W base args ds gs before hval hW

theorem over : Rows.packetFillsRow.holds Try.pinned (OpenSpec.ofChange Rows.packetFillsSpec) :=
 OpenClaim.holds_of_wide 13 Try.f13 rfl rfl rfl rfl rfl rfl rfl ⟨rfl, rfl, rfl, rfl, rfl⟩ rfl rfl rfl rfl rfl (by kernel_rfl) Try.func13 (by kernel_rfl)
  (of_decide_eq_true (by kernel_rfl)) (by unfold Func.isWrapper; first | (rw [if_pos (by decide +kernel)]; kernel_rfl) | (rw [if_neg (by decide +kernel)]; exact ⟨rfl, rfl⟩))
  (fun os started H enc _ => lifted os started H enc)

theorem proved : Rows.PacketFillsSaid :=
 over
end Go.Proofs.Ytkjlgbnbpeijbaa.packetFills
