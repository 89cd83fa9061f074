/- The law topNearest: the walk and the plain law are joined. -/
import Derived.Test.YtcaphjiiaclndaaRows
import Derived.Test.YtcaphjiiaclndaaNear3F0
import Derived.Test.YtcaphjiiaclndaaNearP3
import Derived.ProofKit
import Derived.WalkKit
import Derived.OpenShut
namespace Go.Proofs.Ytcaphjiiaclndaa.topNearest
set_option linter.unusedVariables false
set_option linter.unusedSimpArgs false
open Go.ChangeShapes Go.WideShapes Go.ChangeAt Go.RowKit
open Go.Gh Go.Gh.Near

theorem own : ownKnob Try.prog.godebug = none := by kernel_rfl

def pars : List (Bool × List Sp) := [(false, [.one (.int .u8)]), (true, [.arr (.int .u8) 5]), (true, [.arr (.int .u8) 5])]

theorem law : ∀ gs, Go.Gh.ArgRel pars gs → CallOK cx 3 gs [] [] (.r (.at (.bool true))) [] := by
  intro gs h
  obtain ⟨_, _, rfl, ⟨a0, _, hg0, h0, rfl⟩, ⟨_, _, rfl, ⟨w1, _, rfl, hw1, hv1, rfl⟩, ⟨_, _, rfl, ⟨w2, _, rfl, hw2, hv2, rfl⟩, rfl⟩⟩⟩ := h
  cases hg0
  have h0 : @LE.le Int _ 0 a0 ∧ @LE.le Int _ a0 255 := h0
  have hv1 : ∀ x : Int, @Membership.mem Int (List Int) _ w1 x → 0 ≤ x ∧ x ≤ 255 := hv1
  have hv2 : ∀ x : Int, @Membership.mem Int (List Int) _ w2 x → 0 ≤ x ∧ x ≤ 255 := hv2
  exact f3_ok 10000 a0 w1 w2 true (f3_plain a0 w1 w2 h0 hw1 hv1 hw2 hv2)


set_option maxRecDepth 100000 in
theorem contract (H : Type) (enc : TypeId × Value → H) (W : World) (base : Nat) (args : Array Value) (ds gs : List (DataW H)) (before : List MemPlace)
    (hval : ∀ (j : Nat) t v, Try.f3.params[j]? = some t → args[j]? = some v → Value.okWide Try.prog W .any base t v)
    (hW : DataW.Whole enc Try.prog Try.f3.params.toList Rows.topNearestSpec.vars false W args.toList ds gs before) :
    Calls Try.prog 3 args W fun e W' => ∃ v, e = .returned v ∧ Rows.topNearestSpec.post enc Try.prog Try.f3 false true false false W args v W' :=
  law_contract (cx := cx) (s := Rows.topNearestSpec) (pars := pars) cxOK lawOK glU (by kernel_rfl) (by kernel_rfl) rfl (by kernel_rfl) rfl law H
    (fun ds h => by
      have h : ds.length = Try.f3.params.size := h
      rw [show Try.f3.params.size = 3 from by kernel_rfl] at h
      match ds, h with | [d0, d1, d2], _ => rfl) enc W base args ds gs before hval hW

set_option maxRecDepth 100000 in
theorem lifted (os : Os) (started : os.Started) (H : Type) (enc : TypeId × Value → H) :
    ReturnsInHanded {} Try.checked os 3 .any (Rows.topNearestSpec.pre6 enc Try.prog Try.f3 Rows.topNearestRow.domain false) (Rows.topNearestSpec.post enc Try.prog Try.f3 false true false false) := by
  refine returnsInHanded_of_change (C := Try.checked) own started (by kernel_rfl) Try.func3
    (ChangeSpec.witness6 (enc := enc) (C := Try.checked) false ⟨#[], #[.int .u8 0, .agg #[.int .u8 0, .int .u8 0, .int .u8 0, .int .u8 0, .int .u8 0], .agg #[.int .u8 0, .int .u8 0, .int .u8 0, .int .u8 0, .int .u8 0]], []⟩ 8 (by kernel_rfl) (by kernel_rfl) (by kernel_rfl) (by kernel_rfl)) ?_
  intro W base args ds gs before hval hW _ _
  exact contract H enc W base args ds gs before hval hW

theorem over : Rows.topNearestRow.holds Try.pinned (OpenSpec.ofChange Rows.topNearestSpec) :=
  OpenClaim.holds_of_wide 3 Try.f3 rfl rfl rfl rfl rfl rfl rfl ⟨rfl, rfl, rfl, rfl, rfl⟩ rfl rfl rfl rfl rfl (by kernel_rfl) Try.func3 (by kernel_rfl)
    (of_decide_eq_true (by kernel_rfl)) (by unfold Func.isWrapper; first | (rw [if_pos (by decide +kernel)]; kernel_rfl) | (rw [if_neg (by decide +kernel)]; exact ⟨rfl, rfl⟩))
    (fun os started H enc _ => lifted os started H enc)

theorem proved : Rows.TopNearestSaid :=
  over
end Go.Proofs.Ytcaphjiiaclndaa.topNearest
