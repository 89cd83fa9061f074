/- The law packetLess: the walk and the plain law are joined. -/
import Derived.Test.YtkjlgbnbpeijbaaRows
import Derived.Test.YtkjlgbnbpeijbaaPack12F1
import Derived.Test.YtkjlgbnbpeijbaaPackP12
import Derived.ProofKit
import Derived.WalkKit
import Derived.OpenShut
namespace Go.Proofs.Ytkjlgbnbpeijbaa.packetLess
set_option linter.unusedVariables false
set_option linter.unusedSimpArgs false
open Go.ChangeShapes Go.WideShapes Go.ChangeAt Go.RowKit
open Go.Gh Go.Gh.Pack

theorem own : ownKnob Try.prog.godebug = none := by kernel_rfl

def pars : List (Bool × List Sp) := [(true, [.arr (.int .u8) 4, .arr (.int .u8) 4, .one (.int .u8)])]

theorem law : ∀ gs, Go.Gh.ArgRel pars gs → CallOK cx 12 gs [] [] (.r (.at (.bool true))) [] := by
  intro gs h
  obtain ⟨_, _, rfl, ⟨z0, _, rfl, zl0, zr0, t0, _, rfl, tl0, tr0, c0, _, hk0, ck0, rfl⟩, rfl⟩ := h
  cases hk0
  have ck0 : @LE.le Int _ 0 c0 ∧ @LE.le Int _ c0 255 := ck0
  exact f12_ok 2100 z0 t0 c0 true (f12_plain z0 t0 c0 zl0 zr0 tl0 tr0 ck0)


set_option maxRecDepth 100000 in
theorem contract (H : Type) (enc : TypeId × Value → H) (W : World) (base : Nat) (args : Array Value) (ds gs : List (DataW H)) (before : List MemPlace)
    (hval : ∀ (j : Nat) t v, Try.f12.params[j]? = some t → args[j]? = some v → Value.okWide Try.prog W .any base t v)
    (hW : DataW.Whole enc Try.prog Try.f12.params.toList Rows.packetLessSpec.vars false W args.toList ds gs before) :
    Calls Try.prog 12 args W fun e W' => ∃ v, e = .returned v ∧ Rows.packetLessSpec.post enc Try.prog Try.f12 false true false false W args v W' :=
  law_contract (cx := cx) (s := Rows.packetLessSpec) (pars := pars) cxOK lawOK glU (by kernel_rfl) (by kernel_rfl) rfl (by kernel_rfl) rfl law H
    (fun ds h => by
      have h : ds.length = Try.f12.params.size := h
      rw [show Try.f12.params.size = 1 from by kernel_rfl] at h
      match ds, h with | [d0], _ => rfl) enc W base args ds gs before hval hW

set_option maxRecDepth 100000 in
theorem lifted (os : Os) (started : os.Started) (H : Type) (enc : TypeId × Value → H) :
    ReturnsInHanded {} Try.checked os 12 .any (Rows.packetLessSpec.pre6 enc Try.prog Try.f12 Rows.packetLessRow.domain false) (Rows.packetLessSpec.post enc Try.prog Try.f12 false true false false) := by
  refine returnsInHanded_of_change (C := Try.checked) own started (by kernel_rfl) Try.func12
    (ChangeSpec.witness6 (enc := enc) (C := Try.checked) false ⟨#[], #[.agg #[.int .u8 0, .int .u8 0, .int .u8 0, .int .u8 0, .int .u8 0, .int .u8 0, .int .u8 0, .int .u8 0, .int .u8 0]], []⟩ 8 (by kernel_rfl) (by kernel_rfl) (by kernel_rfl) (by kernel_rfl)) ?_
  intro W base args ds gs before hval hW _ _
  exact contract H enc W base args ds gs before hval hW

theorem over : Rows.packetLessRow.holds Try.pinned (OpenSpec.ofChange Rows.packetLessSpec) :=
  OpenClaim.holds_of_wide 12 Try.f12 rfl rfl rfl rfl rfl rfl rfl ⟨rfl, rfl, rfl, rfl, rfl⟩ rfl rfl rfl rfl rfl (by kernel_rfl) Try.func12 (by kernel_rfl)
    (of_decide_eq_true (by kernel_rfl)) (by unfold Func.isWrapper; first | (rw [if_pos (by decide +kernel)]; kernel_rfl) | (rw [if_neg (by decide +kernel)]; exact ⟨rfl, rfl⟩))
    (fun os started H enc _ => lifted os started H enc)

theorem proved : Rows.PacketLessSaid :=
  over
end Go.Proofs.Ytkjlgbnbpeijbaa.packetLess
