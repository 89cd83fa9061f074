/- HatSmallest, four helpers: all sets of colourings, in chunks: a round of the loop, and the kernel's run of each chunk. -/
import Derived.Test.YtmkejpdmaclkpaaDoorHatP12
namespace Go.Gh.Hat
set_option linter.unusedVariables false
set_option linter.unusedSimpArgs false

/-- A round of the loop: what is best so far. -/
def st (F : Nat) (x1 : Int) (x2 : Option (List Int)) (x3 : Int) : Option (Option (List Int)) :=
      Option.bind (f12_p5 F x1 x2 x3 F 0 x3) fun x6 =>
      if (Option.isNone x2) = true then
        Option.bind (f12_p10 F x1 x2 x3 F x3 0) fun x13 =>
        req ((0 : Int) ≤ (w64 (1 + (Int.tmod (w64 (x1)) 4)))) <|
        req ((0 : Int) ≤ (iShl .u64 1 (w64 (1 + (Int.tmod (w64 (x1)) 4))))) <|
        if (x13 != (w64 ((iShl .i64 1 (iShl .u64 1 (w64 (1 + (Int.tmod (w64 (x1)) 4))))) - 1))) = true then
          some x2
        else
          Option.bind (f43 F x3) fun x14 =>
          req (x14 ≠ []) <|
          some (some x14)
      else
      if (decide (x6 > ((List.length ((x2).getD []) : Nat) : Int))) = true then
        some x2
      else
        Option.bind (f12_p10_1 F x1 x2 x3 F x3 0) fun x21 =>
        req ((0 : Int) ≤ (w64 (1 + (Int.tmod (w64 (x1)) 4)))) <|
        req ((0 : Int) ≤ (iShl .u64 1 (w64 (1 + (Int.tmod (w64 (x1)) 4))))) <|
        if (x21 != (w64 ((iShl .i64 1 (iShl .u64 1 (w64 (1 + (Int.tmod (w64 (x1)) 4))))) - 1))) = true then
          some x2
        else
          Option.bind (f43 F x3) fun x22 =>
          if (decide (((List.length x22 : Nat) : Int) < ((List.length ((x2).getD []) : Nat) : Int))) = true then
            req (x22 ≠ []) <|
            some (some x22)
          else
            Option.bind (f54 F x22 x2) fun x23 =>
            Option.bind (f12_p19 F x1 x2 x22 x3 x23) fun x24 =>
            some x24

theorem bind_req {α β : Type} (p : Prop) [Decidable p] (x : Option α) (f : α → Option β) : (req p x).bind f = req p (x.bind f) := by
  unfold req; split <;> rfl

theorem bind_ite {α β : Type} (p : Prop) [Decidable p] (x y : Option α) (f : α → Option β) : (if p then x else y).bind f = if p then x.bind f else y.bind f := by
  split <;> rfl

theorem step_eq (F : Nat) (x1 : Int) (k : Nat) (s : Option (List Int)) (i : Int) (h : i < iShl .i64 1 (iShl .u64 1 (w64 (1 + (Int.tmod (w64 (x1)) 4))))) :
    f12_p1_7 F x1 (k + 1) s i = (st F x1 s i).bind fun s' => f12_p1_7 F x1 k s' (w64 (i + 1)) := by
  simp only [f12_p1_7, st, h, decide_true, if_true, Option.bind_assoc, bind_ite, bind_req, Option.bind_some]

/-- Rounds from `i` on. -/
def runs (F : Nat) (x1 : Int) : Nat → Option (List Int) → Nat → Option (Option (List Int))
  | 0, s, _ => some s
  | n + 1, s, i => (st F x1 s (i : Int)).bind fun s' => runs F x1 n s' (i + 1)

theorem runs_eq (F : Nat) (x1 : Int) (N : Nat) (hN : ((N : Nat) : Int) = iShl .i64 1 (iShl .u64 1 (w64 (1 + (Int.tmod (w64 (x1)) 4))))) (hN2 : N ≤ 1000000) : ∀ (n k : Nat) (s : Option (List Int)) (i : Nat), i + n ≤ N →
    f12_p1_7 F x1 (k + n) s (i : Int) = (runs F x1 n s i).bind fun s' => f12_p1_7 F x1 k s' ((i + n : Nat) : Int)
  | 0, k, s, i, _ => by simp [runs]
  | n + 1, k, s, i, h => by
    rw [← Nat.add_assoc, step_eq F x1 (k + n) s i (by rw [← hN]; omega)]
    simp only [runs, Option.bind_assoc]
    congr 1
    funext s'
    rw [w64_in (by omega), show ((i : Int) + 1) = ((i + 1 : Nat) : Int) by omega, runs_eq F x1 N hN hN2 n k s' (i + 1) (by omega)]
    rw [show i + 1 + n = i + (n + 1) by omega]

end Go.Gh.Hat
