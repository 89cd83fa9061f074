/- The law saleNamed: the walk and the plain law are joined. -/
import Derived.Test.YtdbaljbhnpchjaaRows
import Derived.Test.YtdbaljbhnpchjaaSale8F1
import Derived.Test.YtdbaljbhnpchjaaSaleP8
import Derived.ProofKit
import Derived.WalkKit
import Derived.OpenShut
namespace Go.Proofs.Ytdbaljbhnpchjaa.saleNamed
set_option linter.unusedVariables false
set_option linter.unusedSimpArgs false
open Go.ChangeShapes Go.WideShapes Go.ChangeAt Go.RowKit
open Go.Gh Go.Gh.Sale

theorem own : ownKnob Try.prog.godebug = none := by kernel_rfl

def pars : List (Bool × List Sp) := [(true, [.one (.int .u8), .one (.int .u8), .arr (.int .u8) 16]), (false, [.one (.int .u8)]), (false, [.one (.int .u8)])]

theorem law : ∀ gs, Go.Gh.ArgRel pars gs → CallOK cx 8 gs [] [] (.r (.at (.bool true))) [] := by
 intro gs h
 obtain ⟨_, _, rfl, ⟨b0, _, rfl, hb0, ⟨l0, _, rfl, hl0, ⟨w0, _, rfl, hw0, hv0, rfl⟩⟩⟩, ⟨_, _, rfl, ⟨a1, _, hg1, h1, rfl⟩, ⟨_, _, rfl, ⟨a2, _, hg2, h2, rfl⟩, rfl⟩⟩⟩ := h
 have hb0 : @LE.le Int _ 0 b0 ∧ @LE.le Int _ b0 255 := hb0
 have hl0 : @LE.le Int _ 0 l0 ∧ @LE.le Int _ l0 255 := hl0
 have hv0 : ∀ x : Int, @Membership.mem Int (List Int) _ w0 x → 0 ≤ x ∧ x ≤ 255 := hv0
 cases hg1
 have h1 : @LE.le Int _ 0 a1 ∧ @LE.le Int _ a1 255 := h1
 cases hg2
 have h2 : @LE.le Int _ 0 a2 ∧ @LE.le Int _ a2 255 := h2
 exact f8_ok 10000 b0 l0 w0 a1 a2 true (f8_plain b0 l0 w0 a1 a2 hb0 hl0 hw0 hv0 h1 h2)


set_option maxRecDepth 100000 in
theorem contract (H : Type) (enc : TypeId × Value → H) (W : World) (base : Nat) (args : Array Value) (ds gs : List (DataW H)) (before : List MemPlace)
  (hval : ∀ (j : Nat) t v, Try.f8.params[j]? = some t → args[j]? = some v → Value.okWide Try.prog W .any base t v)
  (hW : DataW.Whole enc Try.prog Try.f8.params.toList Rows.saleNamedSpec.vars false W args.toList ds gs before) :
  Calls Try.prog 8 args W fun e W' => ∃ v, e = .returned v ∧ Rows.saleNamedSpec.post enc Try.prog Try.f8 false true false false W args v W' :=
 law_contract (cx := cx) (s := Rows.saleNamedSpec) (pars := pars) cxOK lawOK glU (by kernel_rfl) (by kernel_rfl) rfl (by kernel_rfl) rfl law H
  (fun ds h => by
   have h : ds.length = Try.f8.params.size := h
   rw [show Try.f8.params.size = 3 from by kernel_rfl] at h
   match ds, h with | [d0, d1, d2], _ => rfl) enc W base args ds gs before hval hW

set_option maxRecDepth 100000 in
theorem lifted (os : Os) (started : os.Started) (H : Type) (enc : TypeId × Value → H) :
  ReturnsInHanded {} Try.checked os 8 .any (Rows.saleNamedSpec.pre6 enc Try.prog Try.f8 Rows.saleNamedRow.domain false) (Rows.saleNamedSpec.post enc Try.prog Try.f8 false true false false) := by
 refine returnsInHanded_of_change (C := Try.checked) own started (by kernel_rfl) Try.func8
  (ChangeSpec.witness6 (enc := enc) (C := Try.checked) false ⟨#[], #[.agg #[.int .u8 0, .int .u8 0, .int .u8 0, .int .u8 0, .int .u8 0, .int .u8 0, .int .u8 0, .int .u8 0, .int .u8 0, .int .u8 0, .int .u8 0, .int .u8 0, .int .u8 0, .int .u8 0, .int .u8 0, .int .u8 0, .int .u8 0, .int .u8 0], .int .u8 0, .int .u8 0], []⟩ 8 (by kernel_rfl) (by kernel_rfl) (by kernel_rfl) (by kernel_rfl)) ?_
 intro W base args ds gs before hval hW _ _
 exact contract H enc W base args ds gs before hval hW

theorem over : Rows.saleNamedRow.holds Try.pinned (OpenSpec.ofChange Rows.saleNamedSpec) :=
 OpenClaim.holds_of_wide 8 Try.f8 rfl rfl rfl rfl rfl rfl rfl ⟨rfl, rfl, rfl, rfl, rfl⟩ rfl rfl rfl rfl rfl (by kernel_rfl) Try.func8 (by kernel_rfl)
  (of_decide_eq_true (by kernel_rfl)) (by unfold Func.isWrapper; first | (rw [if_pos (by decide +kernel)]; kernel_rfl) | (rw [if_neg (by decide +kernel)]; exact ⟨rfl, rfl⟩))
  (fun os started H enc _ => lifted os started H enc)

theorem proved : Rows.SaleNamedSaid :=
 over
end Go.Proofs.Ytdbaljbhnpchjaa.saleNamed
