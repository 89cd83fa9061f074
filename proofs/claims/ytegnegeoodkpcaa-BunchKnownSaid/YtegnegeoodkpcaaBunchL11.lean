/- The law bunchKnown: the walk and the plain law are joined. -/
import Derived.Test.YtegnegeoodkpcaaRows
import Derived.Test.YtegnegeoodkpcaaBunch11F0
import Derived.Test.YtegnegeoodkpcaaBunchP11
import Derived.ProofKit
import Derived.WalkKit
import Derived.OpenShut
namespace Go.Proofs.Ytegnegeoodkpcaa.bunchKnown
set_option linter.unusedVariables false
set_option linter.unusedSimpArgs false
open Go.ChangeShapes Go.WideShapes Go.ChangeAt Go.RowKit
open Go.Gh Go.Gh.Bunch

theorem own : ownKnob Try.prog.godebug = none := by kernel_rfl

def pars : List (Bool × List Sp) := []

theorem law : ∀ gs, Go.Gh.ArgRel pars gs → CallOK cx 11 gs [] [] (.r (.at (.bool true))) [] := by
  intro gs h
  obtain rfl : gs = [] := h
  exact f11_ok 100  true (f11_plain )


set_option maxRecDepth 100000 in
theorem contract (H : Type) (enc : TypeId × Value → H) (W : World) (base : Nat) (args : Array Value) (ds gs : List (DataW H)) (before : List MemPlace)
    (hval : ∀ (j : Nat) t v, Try.f11.params[j]? = some t → args[j]? = some v → Value.okWide Try.prog W .any base t v)
    (hW : DataW.Whole enc Try.prog Try.f11.params.toList Rows.bunchKnownSpec.vars false W args.toList ds gs before) :
    Calls Try.prog 11 args W fun e W' => ∃ v, e = .returned v ∧ Rows.bunchKnownSpec.post enc Try.prog Try.f11 false true false false W args v W' :=
  law_contract (cx := cx) (s := Rows.bunchKnownSpec) (pars := pars) cxOK lawOK glU (by kernel_rfl) (by kernel_rfl) rfl (by kernel_rfl) rfl law H
    (fun ds h => by
      have h : ds.length = Try.f11.params.size := h
      rw [show Try.f11.params.size = 0 from by kernel_rfl] at h
      match ds, h with | [], _ => rfl) enc W base args ds gs before hval hW

set_option maxRecDepth 100000 in
theorem lifted (os : Os) (started : os.Started) (H : Type) (enc : TypeId × Value → H) :
    ReturnsInHanded {} Try.checked os 11 .any (Rows.bunchKnownSpec.pre6 enc Try.prog Try.f11 Rows.bunchKnownRow.domain false) (Rows.bunchKnownSpec.post enc Try.prog Try.f11 false true false false) := by
  refine returnsInHanded_of_change (C := Try.checked) own started (by kernel_rfl) Try.func11
    (ChangeSpec.witness6 (enc := enc) (C := Try.checked) false ⟨#[], #[], []⟩ 8 (by kernel_rfl) (by kernel_rfl) (by kernel_rfl) (by kernel_rfl)) ?_
  intro W base args ds gs before hval hW _ _
  exact contract H enc W base args ds gs before hval hW

theorem over : Rows.bunchKnownRow.holds Try.pinned (OpenSpec.ofChange Rows.bunchKnownSpec) :=
  OpenClaim.holds_of_wide 11 Try.f11 rfl rfl rfl rfl rfl rfl rfl ⟨rfl, rfl, rfl, rfl, rfl⟩ rfl rfl rfl rfl rfl (by kernel_rfl) Try.func11 (by kernel_rfl)
    (of_decide_eq_true (by kernel_rfl)) (by unfold Func.isWrapper; first | (rw [if_pos (by decide +kernel)]; kernel_rfl) | (rw [if_neg (by decide +kernel)]; exact ⟨rfl, rfl⟩))
    (fun os started H enc _ => lifted os started H enc)

theorem proved : Rows.BunchKnownSaid :=
  over
end Go.Proofs.Ytegnegeoodkpcaa.bunchKnown
