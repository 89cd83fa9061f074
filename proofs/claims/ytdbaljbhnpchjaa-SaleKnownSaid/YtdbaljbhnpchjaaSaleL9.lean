/- The law saleKnown: the walk and the plain law are joined. -/
import Derived.Test.YtdbaljbhnpchjaaRows
import Derived.Test.YtdbaljbhnpchjaaSale9F0
import Derived.Test.YtdbaljbhnpchjaaSaleP9
import Derived.ProofKit
import Derived.WalkKit
import Derived.OpenShut
namespace Go.Proofs.Ytdbaljbhnpchjaa.saleKnown
set_option linter.unusedVariables false
set_option linter.unusedSimpArgs false
open Go.ChangeShapes Go.WideShapes Go.ChangeAt Go.RowKit
open Go.Gh Go.Gh.Sale

theorem own : ownKnob Try.prog.godebug = none := by kernel_rfl

def pars : List (Bool × List Sp) := []

theorem law : ∀ gs, Go.Gh.ArgRel pars gs → CallOK cx 9 gs [] [] (.r (.at (.bool true))) [] := by
  intro gs h
  obtain rfl : gs = [] := h
  exact f9_ok 120  true f9_plain


set_option maxRecDepth 100000 in
theorem contract (H : Type) (enc : TypeId × Value → H) (W : World) (base : Nat) (args : Array Value) (ds gs : List (DataW H)) (before : List MemPlace)
    (hval : ∀ (j : Nat) t v, Try.f9.params[j]? = some t → args[j]? = some v → Value.okWide Try.prog W .any base t v)
    (hW : DataW.Whole enc Try.prog Try.f9.params.toList Rows.saleKnownSpec.vars false W args.toList ds gs before) :
    Calls Try.prog 9 args W fun e W' => ∃ v, e = .returned v ∧ Rows.saleKnownSpec.post enc Try.prog Try.f9 false true false false W args v W' :=
  law_contract (cx := cx) (s := Rows.saleKnownSpec) (pars := pars) cxOK lawOK glU (by kernel_rfl) (by kernel_rfl) rfl (by kernel_rfl) rfl law H
    (fun ds h => by
      have h : ds.length = Try.f9.params.size := h
      rw [show Try.f9.params.size = 0 from by kernel_rfl] at h
      match ds, h with | [], _ => rfl) enc W base args ds gs before hval hW

set_option maxRecDepth 100000 in
theorem lifted (os : Os) (started : os.Started) (H : Type) (enc : TypeId × Value → H) :
    ReturnsInHanded {} Try.checked os 9 .any (Rows.saleKnownSpec.pre6 enc Try.prog Try.f9 Rows.saleKnownRow.domain false) (Rows.saleKnownSpec.post enc Try.prog Try.f9 false true false false) := by
  refine returnsInHanded_of_change (C := Try.checked) own started (by kernel_rfl) Try.func9
    (ChangeSpec.witness6 (enc := enc) (C := Try.checked) false ⟨#[], #[], []⟩ 8 (by kernel_rfl) (by kernel_rfl) (by kernel_rfl) (by kernel_rfl)) ?_
  intro W base args ds gs before hval hW _ _
  exact contract H enc W base args ds gs before hval hW

theorem over : Rows.saleKnownRow.holds Try.pinned (OpenSpec.ofChange Rows.saleKnownSpec) :=
  OpenClaim.holds_of_wide 9 Try.f9 rfl rfl rfl rfl rfl rfl rfl ⟨rfl, rfl, rfl, rfl, rfl⟩ rfl rfl rfl rfl rfl (by kernel_rfl) Try.func9 (by kernel_rfl)
    (of_decide_eq_true (by kernel_rfl)) (by unfold Func.isWrapper; first | (rw [if_pos (by decide +kernel)]; kernel_rfl) | (rw [if_neg (by decide +kernel)]; exact ⟨rfl, rfl⟩))
    (fun os started H enc _ => lifted os started H enc)

theorem proved : Rows.SaleKnownSaid :=
  over
end Go.Proofs.Ytdbaljbhnpchjaa.saleKnown
