/- The law salePrices: the walk and the plain law are joined. -/
import Derived.Test.YtdbaljbhnpchjaaRows
import Derived.Test.YtdbaljbhnpchjaaSale14F1
import Derived.Test.YtdbaljbhnpchjaaSaleP14
import Derived.ProofKit
import Derived.WalkKit
import Derived.OpenShut
namespace Go.Proofs.Ytdbaljbhnpchjaa.salePrices
set_option linter.unusedVariables false
set_option linter.unusedSimpArgs false
open Go.ChangeShapes Go.WideShapes Go.ChangeAt Go.RowKit
open Go.Gh Go.Gh.Sale

theorem own : ownKnob Try.prog.godebug = none := by kernel_rfl

def pars : List (Bool × List Sp) := [(true, [.one (.int .u8), .one (.int .u8), .arr (.int .u8) 16])]

theorem law : ∀ gs, Go.Gh.ArgRel pars gs → CallOK cx 14 gs [] [] (.r (.at (.bool true))) [] := by
 intro gs h
 obtain ⟨_, _, rfl, ⟨b0, _, rfl, hb0, ⟨l0, _, rfl, hl0, ⟨w0, _, rfl, hw0, hv0, rfl⟩⟩⟩, rfl⟩ := h
 have hb0 : @LE.le Int _ 0 b0 ∧ @LE.le Int _ b0 255 := hb0
 have hl0 : @LE.le Int _ 0 l0 ∧ @LE.le Int _ l0 255 := hl0
 have hv0 : ∀ x : Int, @Membership.mem Int (List Int) _ w0 x → 0 ≤ x ∧ x ≤ 255 := hv0
 exact f14_ok 10000 b0 l0 w0 true (f14_plain b0 l0 w0 hb0 hl0 hw0 hv0)


set_option maxRecDepth 100000 in
theorem contract (H : Type) (enc : TypeId × Value → H) (W : World) (base : Nat) (args : Array Value) (ds gs : List (DataW H)) (before : List MemPlace)
  (hval : ∀ (j : Nat) t v, Try.f14.params[j]? = some t → args[j]? = some v → Value.okWide Try.prog W .any base t v)
  (hW : DataW.Whole enc Try.prog Try.f14.params.toList Rows.salePricesSpec.vars false W args.toList ds gs before) :
  Calls Try.prog 14 args W fun e W' => ∃ v, e = .returned v ∧ Rows.salePricesSpec.post enc Try.prog Try.f14 false true false false W args v W' :=
 law_contract (cx := cx) (s := Rows.salePricesSpec) (pars := pars) cxOK lawOK glU (by kernel_rfl) (by kernel_rfl) rfl (by kernel_rfl) rfl law H
  (fun ds h => by
   have h : ds.length = Try.f14.params.size := h
   rw [show Try.f14.params.size = 1 from by kernel_rfl] at h
   match ds, h with | [d0], _ => rfl) enc W base args ds gs before hval hW

set_option maxRecDepth 100000 in
theorem lifted (os : Os) (started : os.Started) (H : Type) (enc : TypeId × Value → H) :
  ReturnsInHanded {} Try.checked os 14 .any (Rows.salePricesSpec.pre6 enc Try.prog Try.f14 Rows.salePricesRow.domain false) (Rows.salePricesSpec.post enc Try.prog Try.f14 false true false false) := by
 refine returnsInHanded_of_change (C := Try.checked) own started (by kernel_rfl) Try.func14
  (ChangeSpec.witness6 (enc := enc) (C := Try.checked) false ⟨#[], #[.agg #[.int .u8 0, .int .u8 0, .int .u8 0, .int .u8 0, .int .u8 0, .int .u8 0, .int .u8 0, .int .u8 0, .int .u8 0, .int .u8 0, .int .u8 0, .int .u8 0, .int .u8 0, .int .u8 0, .int .u8 0, .int .u8 0, .int .u8 0, .int .u8 0]], []⟩ 8 (by kernel_rfl) (by kernel_rfl) (by kernel_rfl) (by kernel_rfl)) ?_
 intro W base args ds gs before hval hW _ _
 exact contract H enc W base args ds gs before hval hW

theorem over : Rows.salePricesRow.holds Try.pinned (OpenSpec.ofChange Rows.salePricesSpec) :=
 OpenClaim.holds_of_wide 14 Try.f14 rfl rfl rfl rfl rfl rfl rfl ⟨rfl, rfl, rfl, rfl, rfl⟩ rfl rfl rfl rfl rfl (by kernel_rfl) Try.func14 (by kernel_rfl)
  (of_decide_eq_true (by kernel_rfl)) (by unfold Func.isWrapper; first | (rw [if_pos (by decide +kernel)]; kernel_rfl) | (rw [if_neg (by decide +kernel)]; exact ⟨rfl, rfl⟩))
  (fun os started H enc _ => lifted os started H enc)

theorem proved : Rows.SalePricesSaid :=
 over
end Go.Proofs.Ytdbaljbhnpchjaa.salePrices
