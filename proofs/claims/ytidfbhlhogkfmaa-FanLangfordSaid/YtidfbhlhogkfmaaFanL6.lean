/- The law fanLangford: the walk and the plain law are joined. -/
import Derived.Test.YtidfbhlhogkfmaaRows
import Derived.Test.YtidfbhlhogkfmaaFan6F0
import Derived.Test.YtidfbhlhogkfmaaFanP6
import Derived.ProofKit
import Derived.WalkKit
import Derived.OpenShut
namespace Go.Proofs.Ytidfbhlhogkfmaa.fanLangford
set_option linter.unusedVariables false
set_option linter.unusedSimpArgs false
open Go.ChangeShapes Go.WideShapes Go.ChangeAt Go.RowKit
open Go.Gh Go.Gh.Fan

theorem own : ownKnob Try.prog.godebug = none := by kernel_rfl

def pars : List (Bool × List Sp) := [(false, [.one (.int .u8)]), (false, [.one .bool])]

theorem law : ∀ gs, Go.Gh.ArgRel pars gs → CallOK cx 6 gs [] [] (.r (.at (.bool true))) [] := by
  intro gs h
  obtain ⟨_, _, rfl, ⟨x, _, hg, hx, rfl⟩, ⟨_, _, rfl, ⟨b, _, hg', _, rfl⟩, rfl⟩⟩ := h
  cases hg
  cases hg'
  have hx : @LE.le Int _ 0 x ∧ @LE.le Int _ x 255 := hx
  exact f6_ok 100 x b true (f6_plain x b hx.1 hx.2)


set_option maxRecDepth 100000 in
theorem contract (H : Type) (enc : TypeId × Value → H) (W : World) (base : Nat) (args : Array Value) (ds gs : List (DataW H)) (before : List MemPlace)
    (hval : ∀ (j : Nat) t v, Try.f6.params[j]? = some t → args[j]? = some v → Value.okWide Try.prog W .any base t v)
    (hW : DataW.Whole enc Try.prog Try.f6.params.toList Rows.fanLangfordSpec.vars false W args.toList ds gs before) :
    Calls Try.prog 6 args W fun e W' => ∃ v, e = .returned v ∧ Rows.fanLangfordSpec.post enc Try.prog Try.f6 false true false false W args v W' :=
  law_contract (cx := cx) (s := Rows.fanLangfordSpec) (pars := pars) cxOK lawOK (by kernel_rfl) (by kernel_rfl) rfl (by kernel_rfl) rfl law H
    (fun ds h => by
      have h : ds.length = Try.f6.params.size := h
      rw [show Try.f6.params.size = 2 from by kernel_rfl] at h
      match ds, h with | [d0, d1], _ => rfl) enc W base args ds gs before hval hW

set_option maxRecDepth 100000 in
theorem lifted (os : Os) (started : os.Started) (H : Type) (enc : TypeId × Value → H) :
    ReturnsInHanded {} Try.checked os 6 .any (Rows.fanLangfordSpec.pre6 enc Try.prog Try.f6 Rows.fanLangfordRow.domain false) (Rows.fanLangfordSpec.post enc Try.prog Try.f6 false true false false) := by
  refine returnsInHanded_of_change (C := Try.checked) own started (by kernel_rfl) Try.func6
    (ChangeSpec.witness6 (enc := enc) (C := Try.checked) false ⟨#[], #[.int .u8 0, .bool false], []⟩ 8 (by kernel_rfl) (by kernel_rfl) (by kernel_rfl) (by kernel_rfl)) ?_
  intro W base args ds gs before hval hW _ _
  exact contract H enc W base args ds gs before hval hW

theorem over : Rows.fanLangfordRow.holds Try.pinned (OpenSpec.ofChange Rows.fanLangfordSpec) :=
  OpenClaim.holds_of_wide 6 Try.f6 rfl rfl rfl rfl rfl rfl rfl ⟨rfl, rfl, rfl, rfl, rfl⟩ rfl rfl rfl rfl rfl (by kernel_rfl) Try.func6 (by kernel_rfl)
    (of_decide_eq_true (by kernel_rfl)) (by unfold Func.isWrapper; first | (rw [if_pos (by decide +kernel)]; kernel_rfl) | (rw [if_neg (by decide +kernel)]; exact ⟨rfl, rfl⟩))
    (fun os started H enc _ => lifted os started H enc)

theorem proved : Rows.FanLangfordSaid :=
  over
end Go.Proofs.Ytidfbhlhogkfmaa.fanLangford
