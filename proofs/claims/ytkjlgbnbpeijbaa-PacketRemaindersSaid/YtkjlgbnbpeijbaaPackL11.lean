/- The law packetRemainders: the walk and the plain law are joined. -/
import Derived.Test.YtkjlgbnbpeijbaaRows
import Derived.Test.YtkjlgbnbpeijbaaPack11F1
import Derived.Test.YtkjlgbnbpeijbaaPackP11
import Derived.ProofKit
import Derived.WalkKit
import Derived.OpenShut
namespace Go.Proofs.Ytkjlgbnbpeijbaa.packetRemainders
set_option linter.unusedVariables false
set_option linter.unusedSimpArgs false
open Go.ChangeShapes Go.WideShapes Go.ChangeAt Go.RowKit
open Go.Gh Go.Gh.Pack

theorem own : ownKnob Try.prog.godebug = none := by kernel_rfl

def pars : List (Bool × List Sp) := [(true, [.arr (.int .u8) 4, .arr (.int .u8) 4, .one (.int .u8)]), (false, [.one (.int .u8)]), (false, [.one (.int .u16)])]

theorem law : ∀ gs, Go.Gh.ArgRel pars gs → CallOK cx 11 gs [] [] (.r (.at (.bool true))) [] := by
  intro gs h
  obtain ⟨_, _, rfl, ⟨z0, _, rfl, zl0, zr0, t0, _, rfl, tl0, tr0, c0, _, hk0, ck0, rfl⟩, ⟨_, _, rfl, ⟨a1, _, hg1, h1, rfl⟩, ⟨_, _, rfl, ⟨a2, _, hg2, h2, rfl⟩, rfl⟩⟩⟩ := h
  cases hk0
  have ck0 : @LE.le Int _ 0 c0 ∧ @LE.le Int _ c0 255 := ck0
  cases hg1
  have h1 : @LE.le Int _ 0 a1 ∧ @LE.le Int _ a1 255 := h1
  cases hg2
  have h2 : @LE.le Int _ 0 a2 ∧ @LE.le Int _ a2 65535 := h2
  exact f11_ok 2100 z0 t0 c0 a1 a2 true (f11_plain z0 t0 c0 a1 a2 zl0 zr0 tl0 tr0 ck0 h1 h2)


set_option maxRecDepth 100000 in
theorem contract (H : Type) (enc : TypeId × Value → H) (W : World) (base : Nat) (args : Array Value) (ds gs : List (DataW H)) (before : List MemPlace)
    (hval : ∀ (j : Nat) t v, Try.f11.params[j]? = some t → args[j]? = some v → Value.okWide Try.prog W .any base t v)
    (hW : DataW.Whole enc Try.prog Try.f11.params.toList Rows.packetRemaindersSpec.vars false W args.toList ds gs before) :
    Calls Try.prog 11 args W fun e W' => ∃ v, e = .returned v ∧ Rows.packetRemaindersSpec.post enc Try.prog Try.f11 false true false false W args v W' :=
  law_contract (cx := cx) (s := Rows.packetRemaindersSpec) (pars := pars) cxOK lawOK glU (by kernel_rfl) (by kernel_rfl) rfl (by kernel_rfl) rfl law H
    (fun ds h => by
      have h : ds.length = Try.f11.params.size := h
      rw [show Try.f11.params.size = 3 from by kernel_rfl] at h
      match ds, h with | [d0, d1, d2], _ => rfl) enc W base args ds gs before hval hW

set_option maxRecDepth 100000 in
theorem lifted (os : Os) (started : os.Started) (H : Type) (enc : TypeId × Value → H) :
    ReturnsInHanded {} Try.checked os 11 .any (Rows.packetRemaindersSpec.pre6 enc Try.prog Try.f11 Rows.packetRemaindersRow.domain false) (Rows.packetRemaindersSpec.post enc Try.prog Try.f11 false true false false) := by
  refine returnsInHanded_of_change (C := Try.checked) own started (by kernel_rfl) Try.func11
    (ChangeSpec.witness6 (enc := enc) (C := Try.checked) false ⟨#[], #[.agg #[.int .u8 0, .int .u8 0, .int .u8 0, .int .u8 0, .int .u8 0, .int .u8 0, .int .u8 0, .int .u8 0, .int .u8 0], .int .u8 0, .int .u16 0], []⟩ 8 (by kernel_rfl) (by kernel_rfl) (by kernel_rfl) (by kernel_rfl)) ?_
  intro W base args ds gs before hval hW _ _
  exact contract H enc W base args ds gs before hval hW

theorem over : Rows.packetRemaindersRow.holds Try.pinned (OpenSpec.ofChange Rows.packetRemaindersSpec) :=
  OpenClaim.holds_of_wide 11 Try.f11 rfl rfl rfl rfl rfl rfl rfl ⟨rfl, rfl, rfl, rfl, rfl⟩ rfl rfl rfl rfl rfl (by kernel_rfl) Try.func11 (by kernel_rfl)
    (of_decide_eq_true (by kernel_rfl)) (by unfold Func.isWrapper; first | (rw [if_pos (by decide +kernel)]; kernel_rfl) | (rw [if_neg (by decide +kernel)]; exact ⟨rfl, rfl⟩))
    (fun os started H enc _ => lifted os started H enc)

theorem proved : Rows.PacketRemaindersSaid :=
  over
end Go.Proofs.Ytkjlgbnbpeijbaa.packetRemainders
