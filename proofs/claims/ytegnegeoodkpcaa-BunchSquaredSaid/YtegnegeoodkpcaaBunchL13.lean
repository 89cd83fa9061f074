/- The law bunchSquared: the walk and the plain law are joined. -/
import Derived.Test.YtegnegeoodkpcaaRows
import Derived.Test.YtegnegeoodkpcaaBunch13F1
import Derived.Test.YtegnegeoodkpcaaBunchP13
import Derived.ProofKit
import Derived.WalkKit
import Derived.OpenShut
namespace Go.Proofs.Ytegnegeoodkpcaa.bunchSquared
set_option linter.unusedVariables false
set_option linter.unusedSimpArgs false
open Go.ChangeShapes Go.WideShapes Go.ChangeAt Go.RowKit
open Go.Gh Go.Gh.Bunch

theorem own : ownKnob Try.prog.godebug = none := by kernel_rfl

def pars : List (Bool × List Sp) := [(false, [.one (.list (.int .u8))]), (false, [.one (.int .u8)]), (false, [.one (.list (.int .u8))]), (false, [.one (.list (.int .u8))])]

theorem law : ∀ gs, Go.Gh.ArgRel pars gs → CallOK cx 13 gs [] [] (.r (.at (.bool true))) [] := by
  intro gs h
  obtain ⟨_, _, rfl, ⟨a0, _, hg0, h0, rfl⟩, ⟨_, _, rfl, ⟨a1, _, hg1, h1, rfl⟩, ⟨_, _, rfl, ⟨a2, _, hg2, h2, rfl⟩, ⟨_, _, rfl, ⟨a3, _, hg3, h3, rfl⟩, rfl⟩⟩⟩⟩ := h
  cases hg0
  have h0 : ∀ x : Int, @Membership.mem Int (List Int) _ a0 x → 0 ≤ x ∧ x ≤ 255 := h0.2
  cases hg1
  have h1 : @LE.le Int _ 0 a1 ∧ @LE.le Int _ a1 255 := h1
  cases hg2
  have h2 : ∀ x : Int, @Membership.mem Int (List Int) _ a2 x → 0 ≤ x ∧ x ≤ 255 := h2.2
  cases hg3
  have h3 : ∀ x : Int, @Membership.mem Int (List Int) _ a3 x → 0 ≤ x ∧ x ≤ 255 := h3.2
  exact f13_ok 2000 a0 a1 a2 a3 true (f13_plain a0 a1 a2 a3 h0 h1 h2 h3)


set_option maxRecDepth 100000 in
theorem contract (H : Type) (enc : TypeId × Value → H) (W : World) (base : Nat) (args : Array Value) (ds gs : List (DataW H)) (before : List MemPlace)
    (hval : ∀ (j : Nat) t v, Try.f13.params[j]? = some t → args[j]? = some v → Value.okWide Try.prog W .any base t v)
    (hW : DataW.Whole enc Try.prog Try.f13.params.toList Rows.bunchSquaredSpec.vars false W args.toList ds gs before) :
    Calls Try.prog 13 args W fun e W' => ∃ v, e = .returned v ∧ Rows.bunchSquaredSpec.post enc Try.prog Try.f13 false true false false W args v W' :=
  law_contract (cx := cx) (s := Rows.bunchSquaredSpec) (pars := pars) cxOK lawOK glU (by kernel_rfl) (by kernel_rfl) rfl (by kernel_rfl) rfl law H
    (fun ds h => by
      have h : ds.length = Try.f13.params.size := h
      rw [show Try.f13.params.size = 4 from by kernel_rfl] at h
      match ds, h with | [d0, d1, d2, d3], _ => rfl) enc W base args ds gs before hval hW

set_option maxRecDepth 100000 in
theorem lifted (os : Os) (started : os.Started) (H : Type) (enc : TypeId × Value → H) :
    ReturnsInHanded {} Try.checked os 13 .any (Rows.bunchSquaredSpec.pre6 enc Try.prog Try.f13 Rows.bunchSquaredRow.domain false) (Rows.bunchSquaredSpec.post enc Try.prog Try.f13 false true false false) := by
  refine returnsInHanded_of_change (C := Try.checked) own started (by kernel_rfl) Try.func13
    (ChangeSpec.witness6 (enc := enc) (C := Try.checked) false ⟨#[], #[.slice none 0 0, .int .u8 0, .slice none 0 0, .slice none 0 0], []⟩ 8 (by kernel_rfl) (by kernel_rfl) (by kernel_rfl) (by kernel_rfl)) ?_
  intro W base args ds gs before hval hW _ _
  exact contract H enc W base args ds gs before hval hW

theorem over : Rows.bunchSquaredRow.holds Try.pinned (OpenSpec.ofChange Rows.bunchSquaredSpec) :=
  OpenClaim.holds_of_wide 13 Try.f13 rfl rfl rfl rfl rfl rfl rfl ⟨rfl, rfl, rfl, rfl, rfl⟩ rfl rfl rfl rfl rfl (by kernel_rfl) Try.func13 (by kernel_rfl)
    (of_decide_eq_true (by kernel_rfl)) (by unfold Func.isWrapper; first | (rw [if_pos (by decide +kernel)]; kernel_rfl) | (rw [if_neg (by decide +kernel)]; exact ⟨rfl, rfl⟩))
    (fun os started H enc _ => lifted os started H enc)

theorem proved : Rows.BunchSquaredSaid :=
  over
end Go.Proofs.Ytegnegeoodkpcaa.bunchSquared
