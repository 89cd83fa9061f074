/- The law bunchTurned: the walk and the plain law are joined. -/
import Derived.Test.YtegnegeoodkpcaaRows
import Derived.Test.YtegnegeoodkpcaaBunch12F1
import Derived.Test.YtegnegeoodkpcaaBunchP12
import Derived.ProofKit
import Derived.WalkKit
import Derived.OpenShut
namespace Go.Proofs.Ytegnegeoodkpcaa.bunchTurned
set_option linter.unusedVariables false
set_option linter.unusedSimpArgs false
open Go.ChangeShapes Go.WideShapes Go.ChangeAt Go.RowKit
open Go.Gh Go.Gh.Bunch

theorem own : ownKnob Try.prog.godebug = none := by kernel_rfl

def pars : List (Bool × List Sp) := [(false, [.one (.list (.int .u8))]), (false, [.one (.int .u8)]), (false, [.one (.int .u8)])]

theorem law : ∀ gs, Go.Gh.ArgRel pars gs → CallOK cx 12 gs [] [] (.r (.at (.bool true))) [] := by
  intro gs h
  obtain ⟨_, _, rfl, ⟨a0, _, hg0, h0, rfl⟩, ⟨_, _, rfl, ⟨a1, _, hg1, h1, rfl⟩, ⟨_, _, rfl, ⟨a2, _, hg2, h2, rfl⟩, rfl⟩⟩⟩ := h
  cases hg0
  have h0 : ∀ x : Int, @Membership.mem Int (List Int) _ a0 x → 0 ≤ x ∧ x ≤ 255 := h0.2
  cases hg1
  have h1 : @LE.le Int _ 0 a1 ∧ @LE.le Int _ a1 255 := h1
  cases hg2
  have h2 : @LE.le Int _ 0 a2 ∧ @LE.le Int _ a2 255 := h2
  exact f12_ok 2000 a0 a1 a2 true (f12_plain a0 a1 a2 h0 h1 h2)


set_option maxRecDepth 100000 in
theorem contract (H : Type) (enc : TypeId × Value → H) (W : World) (base : Nat) (args : Array Value) (ds gs : List (DataW H)) (before : List MemPlace)
    (hval : ∀ (j : Nat) t v, Try.f12.params[j]? = some t → args[j]? = some v → Value.okWide Try.prog W .any base t v)
    (hW : DataW.Whole enc Try.prog Try.f12.params.toList Rows.bunchTurnedSpec.vars false W args.toList ds gs before) :
    Calls Try.prog 12 args W fun e W' => ∃ v, e = .returned v ∧ Rows.bunchTurnedSpec.post enc Try.prog Try.f12 false true false false W args v W' :=
  law_contract (cx := cx) (s := Rows.bunchTurnedSpec) (pars := pars) cxOK lawOK glU (by kernel_rfl) (by kernel_rfl) rfl (by kernel_rfl) rfl law H
    (fun ds h => by
      have h : ds.length = Try.f12.params.size := h
      rw [show Try.f12.params.size = 3 from by kernel_rfl] at h
      match ds, h with | [d0, d1, d2], _ => rfl) enc W base args ds gs before hval hW

set_option maxRecDepth 100000 in
theorem lifted (os : Os) (started : os.Started) (H : Type) (enc : TypeId × Value → H) :
    ReturnsInHanded {} Try.checked os 12 .any (Rows.bunchTurnedSpec.pre6 enc Try.prog Try.f12 Rows.bunchTurnedRow.domain false) (Rows.bunchTurnedSpec.post enc Try.prog Try.f12 false true false false) := by
  refine returnsInHanded_of_change (C := Try.checked) own started (by kernel_rfl) Try.func12
    (ChangeSpec.witness6 (enc := enc) (C := Try.checked) false ⟨#[], #[.slice none 0 0, .int .u8 0, .int .u8 0], []⟩ 8 (by kernel_rfl) (by kernel_rfl) (by kernel_rfl) (by kernel_rfl)) ?_
  intro W base args ds gs before hval hW _ _
  exact contract H enc W base args ds gs before hval hW

theorem over : Rows.bunchTurnedRow.holds Try.pinned (OpenSpec.ofChange Rows.bunchTurnedSpec) :=
  OpenClaim.holds_of_wide 12 Try.f12 rfl rfl rfl rfl rfl rfl rfl ⟨rfl, rfl, rfl, rfl, rfl⟩ rfl rfl rfl rfl rfl (by kernel_rfl) Try.func12 (by kernel_rfl)
    (of_decide_eq_true (by kernel_rfl)) (by unfold Func.isWrapper; first | (rw [if_pos (by decide +kernel)]; kernel_rfl) | (rw [if_neg (by decide +kernel)]; exact ⟨rfl, rfl⟩))
    (fun os started H enc _ => lifted os started H enc)

theorem proved : Rows.BunchTurnedSaid :=
  over
end Go.Proofs.Ytegnegeoodkpcaa.bunchTurned
