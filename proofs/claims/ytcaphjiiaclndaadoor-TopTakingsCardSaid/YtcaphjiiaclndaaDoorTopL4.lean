/- The law topTakings: the walk and the plain law are joined; its row lists two tables of the library; the card is proved. -/
import Derived.Test.YtcaphjiiaclndaaDoorCards
import Derived.Test.YtcaphjiiaclndaaDoorTie
import Derived.Test.YtcaphjiiaclndaaDoorTopG
import Derived.Test.YtcaphjiiaclndaaDoorTop4F0
import Derived.Test.YtcaphjiiaclndaaDoorTopR4
import Derived.WalkKit
import Derived.ProofKit
import Derived.OpenShut
import Derived.Deep.DeepHandedRow
import Derived.Lib.LaidTab
namespace Go.Proofs.YtcaphjiiaclndaaDoor.topTakings
set_option linter.unusedVariables false
set_option linter.unusedSimpArgs false
open Go.ChangeShapes Go.WideShapes Go.ChangeAt Go.RowKit
open Go.Gh Go.Gh.Top

theorem own : ownKnob Tryd.prog.godebug = none := by kernel_rfl

def pars : List (Bool × List Sp) := [(false, [.one (.int .u8)]), (false, [.one (.int .u8)]), (false, [.one (.int .u8)]), (false, [.one (.int .u8)])]

theorem law : ∀ gs, Go.Gh.ArgRel pars gs → CallOK cx 4 gs [] [] (.r (.at (.bool true))) [] := by
  intro gs h
  obtain ⟨_, _, rfl, ⟨a0, _, hg0, h0, rfl⟩, ⟨_, _, rfl, ⟨a1, _, hg1, h1, rfl⟩, ⟨_, _, rfl, ⟨a2, _, hg2, h2, rfl⟩, ⟨_, _, rfl, ⟨a3, _, hg3, h3, rfl⟩, rfl⟩⟩⟩⟩ := h
  cases hg0
  have h0 : @LE.le Int _ 0 a0 ∧ @LE.le Int _ a0 255 := h0
  cases hg1
  have h1 : @LE.le Int _ 0 a1 ∧ @LE.le Int _ a1 255 := h1
  cases hg2
  have h2 : @LE.le Int _ 0 a2 ∧ @LE.le Int _ a2 255 := h2
  cases hg3
  have h3 : @LE.le Int _ 0 a3 ∧ @LE.le Int _ a3 255 := h3
  exact f4_ok 1100 a0 a1 a2 a3 true (f4_plain a0 a1 a2 a3 h0 h1 h2 h3)


theorem laid_all {W : World} (h : laidMetH Tryd.prog Rows.topTakingsRow.laid W) : laidMet Tryd.prog laidAll W := by
  have h2 := (show laidMet Tryd.prog Rows.topTakingsRow.laid W from h).filter (fun x => x.1 == "math/bits.deBruijn32tab" || x.1 == "math/bits.deBruijn64tab")
  rw [show Rows.topTakingsRow.laid.filter (fun x => x.1 == "math/bits.deBruijn32tab" || x.1 == "math/bits.deBruijn64tab") = laidAll from by kernel_rfl] at h2
  exact h2

set_option maxRecDepth 100000 in
theorem contract (H : Type) (enc : TypeId × Value → H) (W : World) (base : Nat) (args : Array Value) (ds gs : List (DataW H)) (before : List MemPlace)
    (hval : ∀ (j : Nat) t v, Tryd.f4.params[j]? = some t → args[j]? = some v → Value.okWide Tryd.prog W .any base t v)
    (hW : DataW.Whole enc Tryd.prog Tryd.f4.params.toList Rows.topTakingsSpec.vars false W args.toList ds gs before) (hL : laidMetH Tryd.prog Rows.topTakingsRow.laid W) :
    Calls Tryd.prog 4 args W fun e W' => ∃ v, e = .returned v ∧ Rows.topTakingsSpec.post enc Tryd.prog Tryd.f4 false true false false W args v W' :=
  law_contractG (cx := cx) (s := Rows.topTakingsSpec) (pars := pars) cxOK lawOK (by kernel_rfl) (by kernel_rfl) rfl (by kernel_rfl) rfl law H
    (fun ds h => by
      have h : ds.length = Tryd.f4.params.size := h
      rw [show Tryd.f4.params.size = 4 from by kernel_rfl] at h
      match ds, h with | [d0, d1, d2, d3], _ => rfl) enc W base args ds gs before hval hW (glob (laid_all hL))

/-- A world for the witness: the two tables as their initialiser lays them. -/
def lay (zs : List Int) : Obj → Obj
  | .cells _ t frozen => .cells (zs.map (Value.int .u8)).toArray t frozen
  | o => o
def rgs : List Int := [128, 191, 160, 191, 128, 159, 144, 191, 128, 143, 0, 0, 0, 0, 0, 0, 0, 0, 0, 0, 0, 0, 0, 0, 0, 0, 0, 0, 0, 0, 0, 0]
noncomputable def laidWorld (os : Os) : World :=
  { World.holding Tryd.prog os ⟨#[], #[], []⟩ with heap := ((((World.holding Tryd.prog os ⟨#[], #[], []⟩).heap.modify 0 (lay tb32)).modify 1 (lay tb64)).modify 2 (lay (Go.Pinned.utf8FirstZ.map Int.ofNat))).modify 3 (lay rgs) }
theorem laid_met (os : Os) : laidMet Tryd.prog Rows.topTakingsRow.laid ((laidWorld os).forCall (fun _ _ => 0) ⟨#[], #[.int .u8 0, .int .u8 0, .int .u8 0, .int .u8 0], []⟩).memory :=
  laidMet_of_run' 8 (by kernel_rfl) (by kernel_rfl)
theorem reads (os : Os) {H : Type} (enc : TypeId × Value → H) : ∃ places, DataW.whole enc Tryd.prog ((laidWorld os).forCall (fun _ _ => 0) ⟨#[], #[.int .u8 0, .int .u8 0, .int .u8 0, .int .u8 0], []⟩).memory Tryd.f4.params.toList Rows.topTakingsSpec.vars false (#[.int .u8 0, .int .u8 0, .int .u8 0, .int .u8 0] : Array Value).toList 8 = some ([.lit (.int .u8 0), .lit (.int .u8 0), .lit (.int .u8 0), .lit (.int .u8 0)], [], places) :=
  ⟨[], by kernel_rfl⟩

set_option maxRecDepth 100000 in
theorem lifted (os : Os) (started : os.Started) (H : Type) (enc : TypeId × Value → H) (F : Stop.Interp) :
    ReturnsInHanded {} Tryd.checked os 4 .any ((OpenSpec.ofChange Rows.topTakingsSpec).preRow enc Tryd.prog Tryd.f4 Rows.topTakingsRow.domain false Rows.topTakingsRow.laid) (((OpenSpec.ofChange Rows.topTakingsSpec).at F).post enc Tryd.prog Tryd.f4 false true false false) := by
  obtain ⟨places, hx⟩ := reads os enc
  refine returnsInHanded_of_row (C := Tryd.checked) (s := OpenSpec.ofChange Rows.topTakingsSpec) own started (by kernel_rfl) Tryd.func4
    (witness_row_at (enc := enc) (C := Tryd.checked) false (laidWorld os) #[.int .u8 0, .int .u8 0, .int .u8 0, .int .u8 0] rfl (by kernel_rfl) (by kernel_rfl) (by kernel_rfl)
      (OpenSpec.preRow_of_cond 8 hx (by kernel_rfl) (fun k hk => by cases hk) (by kernel_rfl) (laid_met os))) ?_
  intro W base args ds gs before hval hW _ _ _ hL _ _
  exact contract H enc W base args ds gs before hval hW hL

theorem said : Rows.TopTakingsSaid :=
  OpenClaim.holds_of_cond 4 Tryd.f4 rfl rfl rfl rfl rfl rfl rfl ⟨rfl, rfl, rfl, rfl, rfl⟩ rfl rfl rfl rfl rfl (by kernel_rfl) Tryd.func4 (by kernel_rfl)
    (of_decide_eq_true (by kernel_rfl)) (by unfold Func.isWrapper; first | (rw [if_pos (by decide +kernel)]; kernel_rfl) | (rw [if_neg (by decide +kernel)]; exact ⟨rfl, rfl⟩))
    (fun os started H enc _ F => by rw [OpenClaim.pre_eq_preRow]; exact lifted os started H enc F)

/-- No parameter wants a stand-in; the program's own looks are off. -/
theorem plain_looks (f : FuncId) (fn : Func) (hf : Tryd.pinned.checked.prog.funcNamed "aigrette/aigrettetop.TopTakings" = some f) (hfn : Tryd.pinned.checked.prog.funcs[f]? = some fn) :
    false = Tryd.pinned.checked.prog.looks [] ∧ ∀ (j : Nat) t, fn.params[j]? = some t → Tryd.pinned.checked.prog.wantsStandIn t = false := by
  obtain rfl : f = 4 := Option.some.inj ((show Tryd.prog.funcNamed "aigrette/aigrettetop.TopTakings" = some 4 by kernel_rfl).symm.trans hf) |>.symm
  obtain rfl : fn = Tryd.f4 := (Option.some.inj (Tryd.func4.symm.trans hfn)).symm
  refine ⟨by kernel_rfl, fun j t ht => ?_⟩
  have h := List.all_eq_true.1 (show (Tryd.f4.params.toList.all fun t => !Tryd.prog.wantsStandIn t) = true by kernel_rfl) t (by rw [Array.mem_toList_iff]; exact Array.mem_of_getElem? ht)
  exact (by simpa using h : Tryd.prog.wantsStandIn t = false)

theorem card : Rows.TopTakingsCardSaid :=
  Claim7.holds_tied_plain_at .later [] _ _ _ _ said (fun _ h => by cases h) (by kernel_rfl) (fun _ h => by cases h) topTakings_row_tie rfl ⟨rfl, rfl⟩ (by kernel_rfl) rfl plain_looks (by kernel_rfl)
end Go.Proofs.YtcaphjiiaclndaaDoor.topTakings
