/- The law topCovered: the walk and the plain law are joined; its row lists two tables of the library; the card is proved. -/
import Derived.Test.YtcaphjiiaclndaaGreatDoorCards
import Derived.Test.YtcaphjiiaclndaaGreatDoorTie
import Derived.Test.YtcaphjiiaclndaaGreatDoorTzG
import Derived.Test.YtcaphjiiaclndaaGreatDoorTz3F1
import Derived.Test.YtcaphjiiaclndaaGreatDoorTzP3
import Derived.WalkKit
import Derived.ProofKit
import Derived.OpenShut
import Derived.Deep.DeepHandedRow
import Derived.Lib.LaidTab
namespace Go.Proofs.YtcaphjiiaclndaaGreatDoor.topCovered
set_option linter.unusedVariables false
set_option linter.unusedSimpArgs false
open Go.ChangeShapes Go.WideShapes Go.ChangeAt Go.RowKit
open Go.Gh Go.Gh.Tz

theorem own : ownKnob Tryz.prog.godebug = none := by kernel_rfl

def pars : List (Bool × List Sp) := [(false, [.one (.int .u8)]), (false, [.one (.int .u16)])]

theorem law : ∀ gs, Go.Gh.ArgRel pars gs → CallOK cx 3 gs [] [] (.r (.at (.bool true))) [] := by
 intro gs h
 obtain ⟨_, _, rfl, ⟨a0, _, hg0, h0, rfl⟩, ⟨_, _, rfl, ⟨a1, _, hg1, h1, rfl⟩, rfl⟩⟩ := h
 cases hg0
 cases hg1
 have h0 : @LE.le Int _ 0 a0 ∧ @LE.le Int _ a0 255 := h0
 have h1 : @LE.le Int _ 0 a1 ∧ @LE.le Int _ a1 65535 := h1
 exact f3_ok FF a0 a1 true (f3_plain a0 a1 h0 h1)


theorem laid_all {W : World} (h : laidMetH Tryz.prog Rows.topCoveredRow.laid W) : laidMet Tryz.prog laidAll W := h

set_option maxRecDepth 100000 in
theorem contract (H : Type) (enc : TypeId × Value → H) (W : World) (base : Nat) (args : Array Value) (ds gs : List (DataW H)) (before : List MemPlace)
  (hval : ∀ (j : Nat) t v, Tryz.f3.params[j]? = some t → args[j]? = some v → Value.okWide Tryz.prog W .any base t v)
  (hW : DataW.Whole enc Tryz.prog Tryz.f3.params.toList Rows.topCoveredSpec.vars false W args.toList ds gs before) (hL : laidMetH Tryz.prog Rows.topCoveredRow.laid W) :
  Calls Tryz.prog 3 args W fun e W' => ∃ v, e = .returned v ∧ Rows.topCoveredSpec.post enc Tryz.prog Tryz.f3 false true false false W args v W' :=
 law_contractG (cx := cx) (s := Rows.topCoveredSpec) (pars := pars) cxOK lawOK (by kernel_rfl) (by kernel_rfl) rfl (by kernel_rfl) rfl law H
  (fun ds h => by
   have h : ds.length = Tryz.f3.params.size := h
   rw [show Tryz.f3.params.size = 2 from by kernel_rfl] at h
   match ds, h with | [d0, d1], _ => rfl) enc W base args ds gs before hval hW (glob (laid_all hL))

def lay (zs : List Int) : Obj → Obj
 | .cells _ t frozen => .cells (zs.map (Value.int .u8)).toArray t frozen
 | o => o
noncomputable def laidWorld (os : Os) : World :=
 { World.holding Tryz.prog os ⟨#[], #[], []⟩ with heap := ((World.holding Tryz.prog os ⟨#[], #[], []⟩).heap.modify 1  (lay tb32)).modify 2 (lay tb64) }
theorem laid_met (os : Os) : laidMet Tryz.prog Rows.topCoveredRow.laid ((laidWorld os).forCall (fun _ _ => 0) ⟨#[], #[.int .u8 0, .int .u16 0], []⟩).memory :=
 laidMet_of_run' 8 (by kernel_rfl) (by kernel_rfl)
theorem reads (os : Os) {H : Type} (enc : TypeId × Value → H) : ∃ places, DataW.whole enc Tryz.prog ((laidWorld os).forCall (fun _ _ => 0) ⟨#[], #[.int .u8 0, .int .u16 0], []⟩).memory Tryz.f3.params.toList Rows.topCoveredSpec.vars false (#[.int .u8 0, .int .u16 0] : Array Value).toList 8 = some ([.lit (.int .u8 0), .lit (.int .u16 0)], [], places) :=
 ⟨[], by kernel_rfl⟩

set_option maxRecDepth 100000 in
theorem lifted (os : Os) (started : os.Started) (H : Type) (enc : TypeId × Value → H) (F : Stop.Interp) :
  ReturnsInHanded {} Tryz.checked os 3 .any ((OpenSpec.ofChange Rows.topCoveredSpec).preRow enc Tryz.prog Tryz.f3 Rows.topCoveredRow.domain false Rows.topCoveredRow.laid) (((OpenSpec.ofChange Rows.topCoveredSpec).at F).post enc Tryz.prog Tryz.f3 false true false false) := by
 obtain ⟨places, hx⟩ := reads os enc
 refine returnsInHanded_of_row (C := Tryz.checked) (s := OpenSpec.ofChange Rows.topCoveredSpec) own started (by kernel_rfl) Tryz.func3
  (witness_row_at (enc := enc) (C := Tryz.checked) false (laidWorld os) #[.int .u8 0, .int .u16 0] rfl (by kernel_rfl) (by kernel_rfl) (by kernel_rfl)
   (OpenSpec.preRow_of_cond 8 hx (by kernel_rfl) (fun k hk => by cases hk) (by kernel_rfl) (laid_met os))) ?_
 intro W base args ds gs before hval hW _ _ _ hL _ _
 exact contract H enc W base args ds gs before hval hW hL

theorem said : Rows.TopCoveredSaid :=
 OpenClaim.holds_of_cond 3 Tryz.f3 rfl rfl rfl rfl rfl rfl rfl ⟨rfl, rfl, rfl, rfl, rfl⟩ rfl rfl rfl rfl rfl (by kernel_rfl) Tryz.func3 (by kernel_rfl)
  (of_decide_eq_true (by kernel_rfl)) (by unfold Func.isWrapper; first | (rw [if_pos (by decide +kernel)]; kernel_rfl) | (rw [if_neg (by decide +kernel)]; exact ⟨rfl, rfl⟩))
  (fun os started H enc _ F => by rw [OpenClaim.pre_eq_preRow]; exact lifted os started H enc F)

theorem plain_looks (f : FuncId) (fn : Func) (hf : Tryz.pinned.checked.prog.funcNamed "aigrette/aigrettetop.TopCovered" = some f) (hfn : Tryz.pinned.checked.prog.funcs[f]? = some fn) :
  true = Tryz.pinned.checked.prog.looks [] ∧ ∀ (j : Nat) t, fn.params[j]? = some t → Tryz.pinned.checked.prog.wantsStandIn t = false := by
 obtain rfl : f = 3 := Option.some.inj ((show Tryz.prog.funcNamed "aigrette/aigrettetop.TopCovered" = some 3 by kernel_rfl).symm.trans hf) |>.symm
 obtain rfl : fn = Tryz.f3 := (Option.some.inj (Tryz.func3.symm.trans hfn)).symm
 refine ⟨by kernel_rfl, fun j t ht => ?_⟩
 have h := List.all_eq_true.1 (show (Tryz.f3.params.toList.all fun t => !Tryz.prog.wantsStandIn t) = true by kernel_rfl) t (by rw [Array.mem_toList_iff]; exact Array.mem_of_getElem? ht)
 exact (by simpa using h : Tryz.prog.wantsStandIn t = false)

theorem card : Rows.TopCoveredCardSaid :=
 Claim7.holds_tied_plain_at .later [] _ _ _ _ said (fun _ h => by cases h) (by kernel_rfl) (fun _ h => by cases h) topCovered_row_tie rfl ⟨rfl, rfl⟩ (by kernel_rfl) rfl plain_looks (by kernel_rfl)
end Go.Proofs.YtcaphjiiaclndaaGreatDoor.topCovered
