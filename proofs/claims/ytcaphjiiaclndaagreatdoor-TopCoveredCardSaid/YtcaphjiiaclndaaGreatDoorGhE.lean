/- Operations that only compute. -/
import Derived.Test.YtcaphjiiaclndaaGreatDoorGhD
import Derived.Laws.Cover3
import Derived.Laws.Pointers
import Derived.Laws.Small
namespace Go.Gh
set_option linter.unusedVariables false
set_option linter.unusedSimpArgs false

inductive GExit where
 | normal
 | exit (id : Nat)
 | ret

inductive CoA where
 | nilTo (t : Ty)
 | optNil (t : Ty)
 | opt (t : Ty)
 | unclip
 | unopt
 | und

inductive ArgCo where
 | id
 | lend
 | cast (c : CoA)
 | castAt (j : Nat) (c : CoA)

inductive Co where
 | live (is : List Nat)
 | keep (ns : List Nat)
 | ren (ps : List (Nat × Nat))
 | freeze (n : Nat)
 | freezeV (n : Nat) (t : Ty)
 | freezeW (n : Nat) (t : Ty) (k : Nat)
 | prom (i n : Nat) (t : Ty) (e : TypeId)
 | promAt (i j n : Nat) (t : Ty) (e : TypeId)
 | promB (m j n : Nat) (t : Ty) (e : TypeId)
 | cast (i : Nat) (c : CoA)
 | castAt (i j : Nat) (c : CoA)
 | castB (n j : Nat) (c : CoA)
 | shape (i t : Nat)

inductive En where
 | br (b : Bool)
 | v (g : GA)
 | nm (n : Nat)
 | call (cos : List ArgCo) (ns mvd : List Nat) (v : G) (K' : List (Nat × Blk))
 | lp (e : GExit) (env : List (Nat × G)) (hp : List (Nat × Blk))
 | co (c : Co)
 | reg
 | one
 | two
 | thr

structure OR where
 val : G
 rd : List (Nat × Blk) := []
 wr : List (Nat × Option Blk) := []
 mv : List Nat := []
 cs : List Prop := []

def AllP : List Prop → Prop
 | [] => True
 | p :: ps => p ∧ AllP ps

theorem AllP.append : {ps qs : List Prop} → AllP (ps ++ qs) → AllP ps ∧ AllP qs
 | [], _, h => ⟨trivial, h⟩
 | _ :: ps, _, h => ⟨⟨h.1, (AllP.append h.2).1⟩, (AllP.append h.2).2⟩

def OpOK (P : Program) (o : Oper) (a : Act) (μ : Map) (w : World) (H : Heap) (R : OR) : Prop :=
 ∃ v w' μ', ((execOp a.eval o).run P w = .ok (.value v) w' ∨ ((execOp a.eval o).run P w = .ok .skip w' ∧ v = undef)) ∧
  (∀ m, m ∉ R.mv → μ' m = μ m) ∧ HRel μ' w' (after R.mv R.wr H) ∧ Ev μ H w μ' (after R.mv R.wr H) w' ∧
  VG μ' w' (ownOf μ' (after R.mv R.wr H)) R.val v

theorem OpOK.pure {P : Program} {o : Oper} {a : Act} {μ : Map} {w : World} {H : Heap} {g : G} {rd : List (Nat × Blk)} {cs : List Prop} {v : Value} (hH : HRel μ w H)
  (hr : (execOp a.eval o).run P w = .ok (.value v) w) (hv : VG μ w (ownOf μ H) g v) : OpOK P o a μ w H { val := g, rd := rd, cs := cs } := by
 refine ⟨v, w, μ, .inl hr, fun _ _ => rfl, ?_⟩
 rw [after_nil]
 exact ⟨hH, .refl, hv⟩

theorem OpOK.grown {P : Program} {o : Oper} {a : Act} {μ : Map} {w w' : World} {H : Heap} {g : G} {rd : List (Nat × Blk)} {cs : List Prop} {v : Value} (hH : HRel μ w H)
  (hr : (execOp a.eval o).run P w = .ok (.value v) w') (hsize : w.heap.size ≤ w'.heap.size) (hout : w'.output = w.output) (hos : w'.os = w.os) (htape : w'.tape = w.tape)
  (hkeep : ∀ k, k < w.heap.size → w'.heap[k]? = w.heap[k]?) (hv : Ext (ownOf μ H) w (ownOf μ H) w' → VG μ w' (ownOf μ H) g v) : OpOK P o a μ w H { val := g, rd := rd, cs := cs } := by
 refine ⟨v, w', μ, .inl hr, fun _ _ => rfl, ?_⟩
 rw [after_nil]
 obtain ⟨h1, h2⟩ := hH.same hsize hout hos htape hkeep
 exact ⟨h1, h2, hv h2.ext⟩

def G.a (g : GA) : G := .r (.at g)

def constA : Value → GA
 | .int k n => .int k n
 | .bool b => .bool b
 | .string s => .str s
 | .pointer none => .nilp
 | .slice none 0 0 => .nils
 | .map none => .nilm
 | .nilFunc => .nilf
 | _ => .undef

def constG : Value → G
 | .agg cs => .r (.agg (cs.toList.map fun c => .cell (constA c)))
 | v => .a (constA v)

theorem constA_rel {μ : Map} {w : World} {own : Nat → Prop} (v : Value) : VA μ w own (constA v) v := by
 unfold constA
 split <;> first | rfl | trivial

theorem constG_rel {μ : Map} {w : World} {own : Nat → Prop} (v : Value) (h : v.cells.toList.all (·.oneCell') = true ∨ ∀ cs, v ≠ .agg cs) : VG μ w own (constG v) v := by
 unfold constG
 split
 ·rename_i cs
  refine ⟨cs, rfl, ?_⟩
  have h' : cs.toList.all (·.oneCell') = true := by
   rcases h with h | h
   ·simpa [Value.cells] using h
   ·exact absurd rfl (h cs)
  generalize cs.toList = l at h'
  induction l with
  | nil => rfl
  | cons c l ih =>
   simp only [List.all_cons, Bool.and_eq_true] at h'
   exact ⟨c, l, rfl, h'.1, constA_rel c, ih h'.2⟩
 ·exact constA_rel v

def evG (E : Nat → G) (gl : Nat → GA) : Operand → G
 | .tmp t => E t
 | .const v => if v.cells.toList.all (·.oneCell') then constG v else .undef
 | .global g => .a (gl g)
 | .func f => .a (.fn f)

def binI (op : BinOp) (k : IntKind) (x y : Int) : Option (GA × List Prop) :=
 match op with
 | .add => some (.int k (k.wrap (x + y)), [])
 | .sub => some (.int k (k.wrap (x - y)), [])
 | .mul => some (.int k (k.wrap (x * y)), [])
 | .quo => some (.int k (k.wrap (x.tdiv y)), [y ≠ 0])
 | .rem => some (.int k (x.tmod y), [y ≠ 0])
 | .and => some (.int k (iAnd k x y), [])
 | .or => some (.int k (iOr k x y), [])
 | .xor => some (.int k (iXor k x y), [])
 | .andNot => some (.int k (iAndNot k x y), [])
 | .eql => some (.bool (x == y), [])
 | .neq => some (.bool (x != y), [])
 | .lss => some (.bool (decide (x < y)), [])
 | .leq => some (.bool (decide (x ≤ y)), [])
 | .gtr => some (.bool (decide (x > y)), [])
 | .geq => some (.bool (decide (x ≥ y)), [])
 | .shl | .shr => none

theorem binI_rel {P : Program} {w : World} {op : BinOp} {t : TypeId} {k : IntKind} {x y : Int} {g : GA} {cs : List Prop} (h : binI op k x y = some (g, cs)) (hc : AllP cs) :
  ∃ v, (binOp op t (.int k x) (.int k y)).run P w = .ok v w ∧ ∀ μ own, VA μ w own g v := by
 cases op <;> simp only [binI, Option.some.injEq, Prod.mk.injEq, reduceCtorEq] at h <;> obtain ⟨rfl, rfl⟩ := h
 case quo => exact ⟨.int k (k.wrap (x.tdiv y)), by simp [binOp, Op.intDiv, show ¬ y = 0 from hc.1], fun _ _ => rfl⟩
 case rem => exact ⟨.int k (x.tmod y), by simp [binOp, Op.intDiv, show ¬ y = 0 from hc.1], fun _ _ => rfl⟩
 case and => exact ⟨.int k (iAnd k x y), by simp [binOp, Op.intBits, iAnd], fun _ _ => rfl⟩
 case or => exact ⟨.int k (iOr k x y), by simp [binOp, Op.intBits, iOr], fun _ _ => rfl⟩
 case xor => exact ⟨.int k (iXor k x y), by simp [binOp, Op.intBits, iXor], fun _ _ => rfl⟩
 case andNot => exact ⟨.int k (iAndNot k x y), by simp [binOp, Op.intBits, iAndNot], fun _ _ => rfl⟩
 case add => exact ⟨.int k (k.wrap (x + y)), by simp [binOp, Op.intArith], fun _ _ => rfl⟩
 case sub => exact ⟨.int k (k.wrap (x - y)), by simp [binOp, Op.intArith], fun _ _ => rfl⟩
 case mul => exact ⟨.int k (k.wrap (x * y)), by simp [binOp, Op.intArith], fun _ _ => rfl⟩
 case eql => exact ⟨.bool (x == y), by simp [binOp, Op.intCmp], fun _ _ => rfl⟩
 case neq => exact ⟨.bool (x != y), by simp [binOp, Op.intCmp], fun _ _ => rfl⟩
 case lss => exact ⟨.bool (decide (x < y)), by simp [binOp, Op.intCmp], fun _ _ => rfl⟩
 case leq => exact ⟨.bool (decide (x ≤ y)), by simp [binOp, Op.intCmp], fun _ _ => rfl⟩
 case gtr => exact ⟨.bool (decide (x > y)), by simp [binOp, Op.intCmp], fun _ _ => rfl⟩
 case geq => exact ⟨.bool (decide (x ≥ y)), by simp [binOp, Op.intCmp], fun _ _ => rfl⟩

def nilSl : GA → Option (Bool × List Prop)
 | .nils => some (true, [])
 | .lst _ xs _ => some (false, [xs ≠ []])
 | .olst _ o => some (o.isNone, [])
 | .sl _ _ len => some (false, [len ≠ 0])
 | .vw .. => some (false, [])
 | _ => none

def nilPt : GA → Option (Bool × List Prop)
 | .nilp => some (true, [])
 | .ptr .. | .ptg .. | .ipt .. | .ipa .. => some (false, [])
 | _ => none

def nilMp : GA → Option (Bool × List Prop)
 | .nilm => some (true, [])
 | .mp _ => some (false, [])
 | _ => none

section
variable {μ : Map} {w : World} {own : Nat → Prop}
theorem nilSl_rel {x : GA} {v : Value} {b : Bool} {cs : List Prop} (h : nilSl x = some (b, cs)) (hc : AllP cs) (hx : VA μ w own x v) : ∃ a l c, v = .slice a l c ∧ b = a.isNone := by
 cases x <;> simp only [nilSl, Option.some.injEq, Prod.mk.injEq, reduceCtorEq] at h <;> obtain ⟨rfl, rfl⟩ := h
 case lst ty xs clip =>
  obtain ⟨a, cap, rfl, ⟨_, hs⟩, _⟩ := hx
  refine ⟨a, _, _, rfl, ?_⟩
  cases a with
  | some _ => rfl
  | none =>
   have h0 := hs.2.1 rfl
   have h1 := hs.1
   exact absurd (List.eq_nil_of_length_eq_zero (by omega)) hc.1
 case olst ty o =>
  rcases hx with ⟨rfl, rfl⟩ | ⟨xs, ad, cap, rfl, rfl, _⟩
  ·exact ⟨_, _, _, rfl, rfl⟩
  ·exact ⟨_, _, _, rfl, rfl⟩
 case nils => exact ⟨none, 0, 0, hx, rfl⟩
 case sl n off len =>
  rcases hx with ⟨_, _, h0, _⟩ | ⟨_, _, _, _, rfl, _⟩
  ·exact absurd h0 hc.1
  ·exact ⟨_, _, _, rfl, rfl⟩
 case vw =>
  obtain ⟨_, _, _, _, rfl, _⟩ := hx
  exact ⟨_, _, _, rfl, rfl⟩
theorem nilPt_rel {x : GA} {v : Value} {b : Bool} {cs : List Prop} (h : nilPt x = some (b, cs)) (hx : VA μ w own x v) : ∃ a, v = .pointer a ∧ b = a.isNone := by
 cases x <;> simp only [nilPt, Option.some.injEq, Prod.mk.injEq, reduceCtorEq] at h <;> obtain ⟨rfl, rfl⟩ := h
 case nilp => exact ⟨none, hx, rfl⟩
 case ptr => obtain ⟨_, _, rfl⟩ := hx; exact ⟨_, rfl, rfl⟩
 case ptg => obtain ⟨_, _, rfl⟩ := hx; exact ⟨_, rfl, rfl⟩
 case ipt => obtain ⟨_, _, _, rfl, _⟩ := hx; exact ⟨_, rfl, rfl⟩
 case ipa => obtain ⟨_, _, _, rfl, _⟩ := hx; exact ⟨_, rfl, rfl⟩
theorem nilMp_rel {x : GA} {v : Value} {b : Bool} {cs : List Prop} (h : nilMp x = some (b, cs)) (hx : VA μ w own x v) : ∃ a, v = .map a ∧ b = a.isNone := by
 cases x <;> simp only [nilMp, Option.some.injEq, Prod.mk.injEq, reduceCtorEq] at h <;> obtain ⟨rfl, rfl⟩ := h
 case nilm => exact ⟨none, hx, rfl⟩
 case mp => obtain ⟨_, _, rfl⟩ := hx; exact ⟨_, rfl, rfl⟩
end

def nilOf (d : TD) (x y : GA) : Option (Bool × List Prop) :=
 match d, y with
 | .slice _, .nils => nilSl x
 | .ptr _, .nilp => nilPt x
 | .map _ _, .nilm => nilMp x
 | _, _ => none

theorem nilOf_rel {P : Program} {μ : Map} {w : World} {own : Nat → Prop} {t : TypeId} {d : TD} {D : TypeDesc} (hD : P.underlying t = some D) (hd : d.fits D) {x y : GA} {vx vy : Value} {b : Bool} {cs : List Prop}
  (h : nilOf d x y = some (b, cs)) (hc : AllP cs) (hx : VA μ w own x vx) (hy : VA μ w own y vy) : (Op.equal t vx vy).run P w = .ok b w ∧ (∀ op x y, eqGuard op t x y vx vy = pure ()) ∧ (∀ op, (op = .eql → binOp op t vx vy = (do pure (.bool (← Op.equal t vx vy)))) ∧ (op = .neq → binOp op t vx vy = (do pure (.bool (!(← Op.equal t vx vy)))))) := by
 unfold nilOf at h
 split at h
 ·simp only [TD.fits] at hd; subst hd
  obtain ⟨a, l, c, rfl, rfl⟩ := nilSl_rel h hc hx
  simp only [VA] at hy; subst hy
  exact ⟨run_equal_slice_nil w t _ a l c hD, fun op x y => by cases op <;> rfl, fun op => ⟨fun e => by subst e; rfl, fun e => by subst e; rfl⟩⟩
 ·simp only [TD.fits] at hd; subst hd
  obtain ⟨a, rfl, rfl⟩ := nilPt_rel h hx
  simp only [VA] at hy; subst hy
  exact ⟨run_equal_pointer_nil w t a (by simp [Program.pointee, hD]), fun op x y => by cases op <;> rfl, fun op => ⟨fun e => by subst e; rfl, fun e => by subst e; rfl⟩⟩
 ·simp only [TD.fits] at hd; subst hd
  obtain ⟨a, rfl, rfl⟩ := nilMp_rel h hx
  simp only [VA] at hy; subst hy
  exact ⟨run_equal_map_nil w t _ _ a hD, fun op x y => by cases op <;> rfl, fun op => ⟨fun e => by subst e; rfl, fun e => by subst e; rfl⟩⟩
 ·cases h

def binG (d : TD) (op : BinOp) (x y : GA) : Option (GA × List Prop) :=
 match op, x, y with
 | .shl, .int k x, .int _ y => some (.int k (iShl k x y), [0 ≤ y])
 | .shr, .int k x, .int _ y => some (.int k (iShr k x y), [0 ≤ y])
 | op, .int k x, .int k' y => if k = k' then binI op k x y else none
 | .eql, .bool x, .bool y => (match d with | .bool => some (.bool (x == y), []) | _ => none)
 | .neq, .bool x, .bool y => (match d with | .bool => some (.bool (!(x == y)), []) | _ => none)
 | .eql, x, y => (match nilOf d x y with | some (b, cs) => some (.bool b, cs) | none => none)
 | .neq, x, y => (match nilOf d x y with | some (b, cs) => some (.bool (!b), cs) | none => none)
 | _, _, _ => none

theorem binG_rel {P : Program} {μ : Map} {w : World} {own : Nat → Prop} {t : TypeId} {d : TD} {D : TypeDesc} (hD : P.underlying t = some D) (hd : d.fits D) {op : BinOp} {x y : GA} {vx vy : Value} {g : GA} {cs : List Prop}
  (h : binG d op x y = some (g, cs)) (hc : AllP cs) (hx : VA μ w own x vx) (hy : VA μ w own y vy) (ox oy : Operand) :
  ∃ v, (do eqGuard op t ox oy vx vy; binOp op t vx vy : Sem Value).run P w = .ok v w ∧ VA μ w own g v := by
 unfold binG at h
 split at h
 ·simp only [Option.some.injEq, Prod.mk.injEq] at h
  obtain ⟨rfl, rfl⟩ := h
  simp only [VA] at hx hy; subst hx; subst hy
  exact ⟨_, by simp [eqGuard_at_int, binOp, Op.shift, Int.not_lt.2 (show (0:Int) ≤ _ from hc.1)]; rfl, rfl⟩
 ·simp only [Option.some.injEq, Prod.mk.injEq] at h
  obtain ⟨rfl, rfl⟩ := h
  simp only [VA] at hx hy; subst hx; subst hy
  exact ⟨_, by simp [eqGuard_at_int, binOp, Op.shift, Int.not_lt.2 (show (0:Int) ≤ _ from hc.1)]; rfl, rfl⟩
 ·split at h
  ·rename_i hk; subst hk
   simp only [VA] at hx hy; subst hx; subst hy
   obtain ⟨v, hv, hr⟩ := binI_rel (P := P) (w := w) (t := t) h hc
   exact ⟨v, by simp [eqGuard_at_int, hv], hr μ own⟩
  ·cases h
 ·split at h
  ·simp only [Option.some.injEq, Prod.mk.injEq] at h
   obtain ⟨rfl, rfl⟩ := h
   simp only [VA] at hx hy; subst hx; subst hy
   simp only [TD.fits] at hd; subst hd
   exact ⟨_, by simp [eqGuard_at_bool, binOp, run_equal_bool w t _ _ hD], rfl⟩
  ·cases h
 ·split at h
  ·simp only [Option.some.injEq, Prod.mk.injEq] at h
   obtain ⟨rfl, rfl⟩ := h
   simp only [VA] at hx hy; subst hx; subst hy
   simp only [TD.fits] at hd; subst hd
   exact ⟨_, by simp [eqGuard_at_bool, binOp, run_equal_bool w t _ _ hD], rfl⟩
  ·cases h
 ·split at h
  ·rename_i b cs' hn
   simp only [Option.some.injEq, Prod.mk.injEq] at h
   obtain ⟨rfl, rfl⟩ := h
   obtain ⟨h1, h2, h3⟩ := nilOf_rel hD hd hn hc hx hy
   exact ⟨.bool b, by simp [h2, (h3 .eql).1 rfl, h1], rfl⟩
  ·cases h
 ·split at h
  ·rename_i b cs' hn
   simp only [Option.some.injEq, Prod.mk.injEq] at h
   obtain ⟨rfl, rfl⟩ := h
   obtain ⟨h1, h2, h3⟩ := nilOf_rel hD hd hn hc hx hy
   exact ⟨.bool (!b), by simp [h2, (h3 .neq).2 rfl, h1], rfl⟩
  ·cases h
 ·cases h

end Go.Gh
