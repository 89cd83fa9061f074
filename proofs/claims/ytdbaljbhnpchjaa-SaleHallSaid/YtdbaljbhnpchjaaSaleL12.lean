/- The law saleHall: the walk and the plain law are joined. -/
import Derived.Test.YtdbaljbhnpchjaaRows
import Derived.Test.YtdbaljbhnpchjaaSale12F1
import Derived.Test.YtdbaljbhnpchjaaSaleP12
import Derived.ProofKit
import Derived.WalkKit
import Derived.OpenShut
namespace Go.Proofs.Ytdbaljbhnpchjaa.saleHall
set_option linter.unusedVariables false
set_option linter.unusedSimpArgs false
open Go.ChangeShapes Go.WideShapes Go.ChangeAt Go.RowKit
open Go.Gh Go.Gh.Sale

theorem own : ownKnob Try.prog.godebug = none := by kernel_rfl

def pars : List (Bool × List Sp) := [(true, [.one (.int .u8), .one (.int .u8), .arr (.int .u8) 16]), (true, [.arr (.int .u8) 4])]

theorem law : ∀ gs, Go.Gh.ArgRel pars gs → CallOK cx 12 gs [] [] (.r (.at (.bool true))) [] := by
 intro gs h
 obtain ⟨_, _, rfl, ⟨b0, _, rfl, hb0, ⟨l0, _, rfl, hl0, ⟨w0, _, rfl, hw0, hv0, rfl⟩⟩⟩, ⟨_, _, rfl, ⟨w1, _, rfl, hw1, hv1, rfl⟩, rfl⟩⟩ := h
 have hb0 : @LE.le Int _ 0 b0 ∧ @LE.le Int _ b0 255 := hb0
 have hl0 : @LE.le Int _ 0 l0 ∧ @LE.le Int _ l0 255 := hl0
 have hv0 : ∀ x : Int, @Membership.mem Int (List Int) _ w0 x → 0 ≤ x ∧ x ≤ 255 := hv0
 have hv1 : ∀ x : Int, @Membership.mem Int (List Int) _ w1 x → 0 ≤ x ∧ x ≤ 255 := hv1
 exact f12_ok 10000 b0 l0 w0 w1 true (f12_plain b0 l0 w0 w1 hb0 hl0 hw0 hv0 hw1 hv1)


set_option maxRecDepth 100000 in
theorem contract (H : Type) (enc : TypeId × Value → H) (W : World) (base : Nat) (args : Array Value) (ds gs : List (DataW H)) (before : List MemPlace)
  (hval : ∀ (j : Nat) t v, Try.f12.params[j]? = some t → args[j]? = some v → Value.okWide Try.prog W .any base t v)
  (hW : DataW.Whole enc Try.prog Try.f12.params.toList Rows.saleHallSpec.vars false W args.toList ds gs before) :
  Calls Try.prog 12 args W fun e W' => ∃ v, e = .returned v ∧ Rows.saleHallSpec.post enc Try.prog Try.f12 false true false false W args v W' :=
 law_contract (cx := cx) (s := Rows.saleHallSpec) (pars := pars) cxOK lawOK glU (by kernel_rfl) (by kernel_rfl) rfl (by kernel_rfl) rfl law H
  (fun ds h => by
   have h : ds.length = Try.f12.params.size := h
   rw [show Try.f12.params.size = 2 from by kernel_rfl] at h
   match ds, h with | [d0, d1], _ => rfl) enc W base args ds gs before hval hW

set_option maxRecDepth 100000 in
theorem lifted (os : Os) (started : os.Started) (H : Type) (enc : TypeId × Value → H) :
  ReturnsInHanded {} Try.checked os 12 .any (Rows.saleHallSpec.pre6 enc Try.prog Try.f12 Rows.saleHallRow.domain false) (Rows.saleHallSpec.post enc Try.prog Try.f12 false true false false) := by
 refine returnsInHanded_of_change (C := Try.checked) own started (by kernel_rfl) Try.func12
  (ChangeSpec.witness6 (enc := enc) (C := Try.checked) false ⟨#[], #[.agg #[.int .u8 0, .int .u8 0, .int .u8 0, .int .u8 0, .int .u8 0, .int .u8 0, .int .u8 0, .int .u8 0, .int .u8 0, .int .u8 0, .int .u8 0, .int .u8 0, .int .u8 0, .int .u8 0, .int .u8 0, .int .u8 0, .int .u8 0, .int .u8 0], .agg #[.int .u8 0, .int .u8 0, .int .u8 0, .int .u8 0]], []⟩ 8 (by kernel_rfl) (by kernel_rfl) (by kernel_rfl) (by kernel_rfl)) ?_
 intro W base args ds gs before hval hW _ _
 exact contract H enc W base args ds gs before hval hW

theorem over : Rows.saleHallRow.holds Try.pinned (OpenSpec.ofChange Rows.saleHallSpec) :=
 OpenClaim.holds_of_wide 12 Try.f12 rfl rfl rfl rfl rfl rfl rfl ⟨rfl, rfl, rfl, rfl, rfl⟩ rfl rfl rfl rfl rfl (by kernel_rfl) Try.func12 (by kernel_rfl)
  (of_decide_eq_true (by kernel_rfl)) (by unfold Func.isWrapper; first | (rw [if_pos (by decide +kernel)]; kernel_rfl) | (rw [if_neg (by decide +kernel)]; exact ⟨rfl, rfl⟩))
  (fun os started H enc _ => lifted os started H enc)

theorem proved : Rows.SaleHallSaid :=
 over
end Go.Proofs.Ytdbaljbhnpchjaa.saleHall
