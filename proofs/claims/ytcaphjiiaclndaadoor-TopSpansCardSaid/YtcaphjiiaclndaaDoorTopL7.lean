/- The law topSpans: the walk and the plain law are joined; its row lists two tables of the library; the card is proved. -/
import Derived.Test.YtcaphjiiaclndaaDoorCards
import Derived.Test.YtcaphjiiaclndaaDoorTie
import Derived.Test.YtcaphjiiaclndaaDoorTopG
import Derived.Test.YtcaphjiiaclndaaDoorTop7F1
import Derived.Test.YtcaphjiiaclndaaDoorTopB7
import Derived.WalkKit
import Derived.ProofKit
import Derived.OpenShut
import Derived.Deep.DeepHandedRow
import Derived.Lib.LaidTab
namespace Go.Proofs.YtcaphjiiaclndaaDoor.topSpans
set_option linter.unusedVariables false
set_option linter.unusedSimpArgs false
open Go.ChangeShapes Go.WideShapes Go.ChangeAt Go.RowKit
open Go.Gh Go.Gh.Top

theorem own : ownKnob Tryd.prog.godebug = none := by kernel_rfl

def pars : List (Bool × List Sp) := [(false, [.one (.int .u8)]), (false, [.one .bool]), (true, [.arr (.int .u8) 8])]

theorem law : ∀ gs, Go.Gh.ArgRel pars gs → CallOK cx 7 gs [] [] (.r (.at (.bool true))) [] := by
 intro gs h
 obtain ⟨_, _, rfl, ⟨a0, _, hg0, h0, rfl⟩, ⟨_, _, rfl, ⟨a1, _, hg1, h1, rfl⟩, ⟨_, _, rfl, ⟨ps, _, rfl, hps, hall, rfl⟩, rfl⟩⟩⟩ := h
 cases hg0
 cases hg1
 have h0 : @LE.le Int _ 0 a0 ∧ @LE.le Int _ a0 255 := h0
 have hall : ∀ x : Int, x ∈ (ps : List Int) → @LE.le Int _ 0 x ∧ @LE.le Int _ x 255 := hall
 exact f7_ok FF a0 a1 ps true (f7_plain a0 a1 ps h0 hps hall)


theorem laid_all {W : World} (h : laidMetH Tryd.prog Rows.topSpansRow.laid W) : laidMet Tryd.prog laidAll W := h

set_option maxRecDepth 100000 in
theorem contract (H : Type) (enc : TypeId × Value → H) (W : World) (base : Nat) (args : Array Value) (ds gs : List (DataW H)) (before : List MemPlace)
  (hval : ∀ (j : Nat) t v, Tryd.f7.params[j]? = some t → args[j]? = some v → Value.okWide Tryd.prog W .any base t v)
  (hW : DataW.Whole enc Tryd.prog Tryd.f7.params.toList Rows.topSpansSpec.vars false W args.toList ds gs before) (hL : laidMetH Tryd.prog Rows.topSpansRow.laid W) :
  Calls Tryd.prog 7 args W fun e W' => ∃ v, e = .returned v ∧ Rows.topSpansSpec.post enc Tryd.prog Tryd.f7 false true false false W args v W' :=
 law_contractG (cx := cx) (s := Rows.topSpansSpec) (pars := pars) cxOK lawOK (by kernel_rfl) (by kernel_rfl) rfl (by kernel_rfl) rfl law H
  (fun ds h => by
   have h : ds.length = Tryd.f7.params.size := h
   rw [show Tryd.f7.params.size = 3 from by kernel_rfl] at h
   match ds, h with | [d0, d1, d2], _ => rfl) enc W base args ds gs before hval hW (glob (laid_all hL))

def lay (zs : List Int) : Obj → Obj
 | .cells _ t frozen => .cells (zs.map (Value.int .u8)).toArray t frozen
 | o => o
noncomputable def laidWorld (os : Os) : World :=
 { World.holding Tryd.prog os ⟨#[], #[], []⟩ with heap := ((World.holding Tryd.prog os ⟨#[], #[], []⟩).heap.modify 0 (lay tb32)).modify 1 (lay tb64) }
theorem laid_met (os : Os) : laidMet Tryd.prog Rows.topSpansRow.laid ((laidWorld os).forCall (fun _ _ => 0) ⟨#[], #[.int .u8 0, .bool false, .agg (List.replicate 8 (Value.int .u8 0)).toArray], []⟩).memory :=
 laidMet_of_run' 8 (by kernel_rfl) (by kernel_rfl)
theorem reads (os : Os) {H : Type} (enc : TypeId × Value → H) : ∃ places, DataW.whole enc Tryd.prog ((laidWorld os).forCall (fun _ _ => 0) ⟨#[], #[.int .u8 0, .bool false, .agg (List.replicate 8 (Value.int .u8 0)).toArray], []⟩).memory Tryd.f7.params.toList Rows.topSpansSpec.vars false (#[.int .u8 0, .bool false, .agg (List.replicate 8 (Value.int .u8 0)).toArray] : Array Value).toList 8 = some ([.lit (.int .u8 0), .lit (.bool false), .agg (List.replicate 8 (.lit (.int .u8 0)))], [], places) :=
 ⟨[], by kernel_rfl⟩

set_option maxRecDepth 100000 in
theorem lifted (os : Os) (started : os.Started) (H : Type) (enc : TypeId × Value → H) (F : Stop.Interp) :
  ReturnsInHanded {} Tryd.checked os 7 .any ((OpenSpec.ofChange Rows.topSpansSpec).preRow enc Tryd.prog Tryd.f7 Rows.topSpansRow.domain false Rows.topSpansRow.laid) (((OpenSpec.ofChange Rows.topSpansSpec).at F).post enc Tryd.prog Tryd.f7 false true false false) := by
 obtain ⟨places, hx⟩ := reads os enc
 refine returnsInHanded_of_row (C := Tryd.checked) (s := OpenSpec.ofChange Rows.topSpansSpec) own started (by kernel_rfl) Tryd.func7
  (witness_row_at (enc := enc) (C := Tryd.checked) false (laidWorld os) #[.int .u8 0, .bool false, .agg (List.replicate 8 (Value.int .u8 0)).toArray] rfl (by kernel_rfl) (by kernel_rfl) (by kernel_rfl)
   (OpenSpec.preRow_of_cond 8 hx (by kernel_rfl) (fun k hk => by cases hk) (by kernel_rfl) (laid_met os))) ?_
 intro W base args ds gs before hval hW _ _ _ hL _ _
 exact contract H enc W base args ds gs before hval hW hL

theorem said : Rows.TopSpansSaid :=
 OpenClaim.holds_of_cond 7 Tryd.f7 rfl rfl rfl rfl rfl rfl rfl ⟨rfl, rfl, rfl, rfl, rfl⟩ rfl rfl rfl rfl rfl (by kernel_rfl) Tryd.func7 (by kernel_rfl)
  (of_decide_eq_true (by kernel_rfl)) (by unfold Func.isWrapper; first | (rw [if_pos (by decide +kernel)]; kernel_rfl) | (rw [if_neg (by decide +kernel)]; exact ⟨rfl, rfl⟩))
  (fun os started H enc _ F => by rw [OpenClaim.pre_eq_preRow]; exact lifted os started H enc F)

theorem plain_looks (f : FuncId) (fn : Func) (hf : Tryd.pinned.checked.prog.funcNamed "aigrette/aigrettetop.TopSpans" = some f) (hfn : Tryd.pinned.checked.prog.funcs[f]? = some fn) :
  false = Tryd.pinned.checked.prog.looks [] ∧ ∀ (j : Nat) t, fn.params[j]? = some t → Tryd.pinned.checked.prog.wantsStandIn t = false := by
 obtain rfl : f = 7 := Option.some.inj ((show Tryd.prog.funcNamed "aigrette/aigrettetop.TopSpans" = some 7 by kernel_rfl).symm.trans hf) |>.symm
 obtain rfl : fn = Tryd.f7 := (Option.some.inj (Tryd.func7.symm.trans hfn)).symm
 refine ⟨by kernel_rfl, fun j t ht => ?_⟩
 have h := List.all_eq_true.1 (show (Tryd.f7.params.toList.all fun t => !Tryd.prog.wantsStandIn t) = true by kernel_rfl) t (by rw [Array.mem_toList_iff]; exact Array.mem_of_getElem? ht)
 exact (by simpa using h : Tryd.prog.wantsStandIn t = false)

theorem card : Rows.TopSpansCardSaid :=
 Claim7.holds_tied_plain_at .later [] _ _ _ _ said (fun _ h => by cases h) (by kernel_rfl) (fun _ h => by cases h) topSpans_row_tie rfl ⟨rfl, rfl⟩ (by kernel_rfl) rfl plain_looks (by kernel_rfl)
end Go.Proofs.YtcaphjiiaclndaaDoor.topSpans
