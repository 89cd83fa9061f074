/- Plain Lean: what the printed functions are made of. -/
import GoSem.Core.View
namespace Go.Gh
set_option linter.unusedVariables false
set_option linter.unusedSimpArgs false

def iAnd (k : IntKind) (x y : Int) : Int := k.wrap ((BitVec.ofInt k.bits x &&& BitVec.ofInt k.bits y).toNat : Nat)
def iOr (k : IntKind) (x y : Int) : Int := k.wrap ((BitVec.ofInt k.bits x ||| BitVec.ofInt k.bits y).toNat : Nat)
def iXor (k : IntKind) (x y : Int) : Int := k.wrap ((BitVec.ofInt k.bits x ^^^ BitVec.ofInt k.bits y).toNat : Nat)
def iAndNot (k : IntKind) (x y : Int) : Int := k.wrap ((BitVec.ofInt k.bits x &&& ~~~BitVec.ofInt k.bits y).toNat : Nat)
def iShl (k : IntKind) (x y : Int) : Int := k.wrap (x * 2 ^ min y.toNat k.bits)
def iShr (k : IntKind) (x y : Int) : Int := x.fdiv (2 ^ min y.toNat k.bits)
def iNot (k : IntKind) (x : Int) : Int := iXor k (if k.signed then -1 else k.max) x

def eqL (xs ys : List Int) : Bool := xs == ys

def at? {α : Type} (xs : List α) (i : Int) : Option α := if 0 ≤ i then xs[i.toNat]? else none

theorem at?_lt {α : Type} {xs : List α} {i : Int} {y : α} {n : Nat} (h : at? xs i = some y) (hn : xs.length = n := by rfl) : i < (n : Int) := by
 subst hn
 unfold at? at h
 split at h
 ·have := (List.getElem?_eq_some_iff.1 h).1
  omega
 ·cases h

def nilm {α β : Type} [DecidableEq β] (f : Option (List α) → Option β) : List α → Option β
 | [] => if f none = f (some []) then f none else none
 | x :: xs => f (some (x :: xs))

theorem nilm_some {α β : Type} [DecidableEq β] {f : Option (List α) → Option β} {xs : List α} {r : β} (h : nilm f xs = some r) : ∀ o : Option (List α), o.getD [] = xs → f o = some r := by
 intro o ho
 cases xs with
 | nil =>
  simp only [nilm] at h
  split at h
  ·rename_i he
   match o, ho with
   | none, _ => exact h
   | some [], _ => rw [← he]; exact h
  ·cases h
 | cons x xs =>
  match o, ho with
  | some (x :: xs), rfl => exact h

def strAt (s : ByteArray) (i : Int) : Int := (((s.data)[i.toNat]?.getD 0).toNat : Int)

theorem at?_spec {α : Type} {xs : List α} {i : Int} {y : α} (h : at? xs i = some y) : 0 ≤ i ∧ xs[i.toNat]? = some y := by
 unfold at? at h; split at h
 ·exact ⟨‹_›, h⟩
 ·cases h

def req {α : Type} (p : Prop) [Decidable p] (x : Option α) : Option α := if p then x else none

theorem req_some {α : Type} {p : Prop} [Decidable p] {x : Option α} {r : α} (h : req p x = some r) : p ∧ x = some r := by
 unfold req at h; split at h
 ·exact ⟨‹_›, h⟩
 ·cases h

theorem bind_some {α β : Type} {x : Option α} {f : α → Option β} {r : β} (h : Option.bind x f = some r) : ∃ y, x = some y ∧ f y = some r := by
 cases x with
 | none => cases h
 | some y => exact ⟨y, rfl, h⟩

def mget {α β : Type} [DecidableEq α] : List (α × β) → α → Option β
 | [], _ => none
 | e :: es, k => if e.1 = k then some e.2 else mget es k
def mset {α β : Type} [DecidableEq α] : List (α × β) → α → β → List (α × β)
 | [], k, v => [(k, v)]
 | e :: es, k, v => if e.1 = k then (k, v) :: es else e :: mset es k v

abbrev w64 (n : Int) : Int := IntKind.wrap .i64 n

end Go.Gh
