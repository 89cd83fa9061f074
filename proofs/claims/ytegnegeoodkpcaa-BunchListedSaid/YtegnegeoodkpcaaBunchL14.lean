/- The law bunchListed: the walk and the plain law are joined. -/
import Derived.Test.YtegnegeoodkpcaaRows
import Derived.Test.YtegnegeoodkpcaaBunch14F1
import Derived.Test.YtegnegeoodkpcaaBunchP14
import Derived.ProofKit
import Derived.WalkKit
import Derived.OpenShut
namespace Go.Proofs.Ytegnegeoodkpcaa.bunchListed
set_option linter.unusedVariables false
set_option linter.unusedSimpArgs false
open Go.ChangeShapes Go.WideShapes Go.ChangeAt Go.RowKit
open Go.Gh Go.Gh.Bunch

theorem own : ownKnob Try.prog.godebug = none := by kernel_rfl

def pars : List (Bool × List Sp) := [(false, [.one (.int .u8)]), (false, [.one (.list (.int .u8))])]

theorem law : ∀ gs, Go.Gh.ArgRel pars gs → CallOK cx 14 gs [] [] (.r (.at (.bool true))) [] := by
  intro gs h
  obtain ⟨_, _, rfl, ⟨a0, _, hg0, h0, rfl⟩, ⟨_, _, rfl, ⟨a1, _, hg1, h1, rfl⟩, rfl⟩⟩ := h
  cases hg0
  have h0 : @LE.le Int _ 0 a0 ∧ @LE.le Int _ a0 255 := h0
  cases hg1
  have h1 : ∀ x : Int, @Membership.mem Int (List Int) _ a1 x → 0 ≤ x ∧ x ≤ 255 := h1.2
  exact f14_ok 2000 a0 a1 true (f14_plain a0 a1 h0 h1)


set_option maxRecDepth 100000 in
theorem contract (H : Type) (enc : TypeId × Value → H) (W : World) (base : Nat) (args : Array Value) (ds gs : List (DataW H)) (before : List MemPlace)
    (hval : ∀ (j : Nat) t v, Try.f14.params[j]? = some t → args[j]? = some v → Value.okWide Try.prog W .any base t v)
    (hW : DataW.Whole enc Try.prog Try.f14.params.toList Rows.bunchListedSpec.vars false W args.toList ds gs before) :
    Calls Try.prog 14 args W fun e W' => ∃ v, e = .returned v ∧ Rows.bunchListedSpec.post enc Try.prog Try.f14 false true false false W args v W' :=
  law_contract (cx := cx) (s := Rows.bunchListedSpec) (pars := pars) cxOK lawOK glU (by kernel_rfl) (by kernel_rfl) rfl (by kernel_rfl) rfl law H
    (fun ds h => by
      have h : ds.length = Try.f14.params.size := h
      rw [show Try.f14.params.size = 2 from by kernel_rfl] at h
      match ds, h with | [d0, d1], _ => rfl) enc W base args ds gs before hval hW

set_option maxRecDepth 100000 in
theorem lifted (os : Os) (started : os.Started) (H : Type) (enc : TypeId × Value → H) :
    ReturnsInHanded {} Try.checked os 14 .any (Rows.bunchListedSpec.pre6 enc Try.prog Try.f14 Rows.bunchListedRow.domain false) (Rows.bunchListedSpec.post enc Try.prog Try.f14 false true false false) := by
  refine returnsInHanded_of_change (C := Try.checked) own started (by kernel_rfl) Try.func14
    (ChangeSpec.witness6 (enc := enc) (C := Try.checked) false ⟨#[], #[.int .u8 0, .slice none 0 0], []⟩ 8 (by kernel_rfl) (by kernel_rfl) (by kernel_rfl) (by kernel_rfl)) ?_
  intro W base args ds gs before hval hW _ _
  exact contract H enc W base args ds gs before hval hW

theorem over : Rows.bunchListedRow.holds Try.pinned (OpenSpec.ofChange Rows.bunchListedSpec) :=
  OpenClaim.holds_of_wide 14 Try.f14 rfl rfl rfl rfl rfl rfl rfl ⟨rfl, rfl, rfl, rfl, rfl⟩ rfl rfl rfl rfl rfl (by kernel_rfl) Try.func14 (by kernel_rfl)
    (of_decide_eq_true (by kernel_rfl)) (by unfold Func.isWrapper; first | (rw [if_pos (by decide +kernel)]; kernel_rfl) | (rw [if_neg (by decide +kernel)]; exact ⟨rfl, rfl⟩))
    (fun os started H enc _ => lifted os started H enc)

theorem proved : Rows.BunchListedSaid :=
  over
end Go.Proofs.Ytegnegeoodkpcaa.bunchListed
