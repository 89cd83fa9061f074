/- Operations on values that read no block: fields, indexes, functions, slices, lengths. -/
import Derived.Test.YtcaphjiiaclndaaGreatDoorGhE
namespace Go.Gh
set_option linter.unusedVariables false
set_option linter.unusedSimpArgs false

section
variable {P : Program} {t : TypeId} {i : TI} (w : World)

theorem TOK1.run_und (h : TOK1 P t i) : ∃ D, (underlying t).run P w = .ok D w ∧ P.underlying t = some D ∧ i.d.fits D := by
 obtain ⟨D, h1, h2⟩ := h.und
 exact ⟨D, run_underlying h1 w, h1, h2⟩

theorem TOK1.run_size (h : TOK1 P t i) : (sizeOf t).run P w = .ok i.size w := by
 obtain ⟨j, z, h1, h2, _⟩ := h.info
 simp [sizeOf, typeInfo, h1, h2]

theorem TOK1.run_info (h : TOK1 P t i) : ∃ j, (typeInfo t).run P w = .ok j w ∧ j.size = i.size ∧ j.bytes = i.bytes := by
 obtain ⟨j, z, h1, h2, h3, _⟩ := h.info
 exact ⟨j, by simp [typeInfo, h1], h2, h3⟩

theorem TOK1.run_zero (h : TOK1 P t i) : ∃ z, (zeroValue t).run P w = .ok z w ∧ zslots i.zero z.cells.toList = true ∧ (∀ τ, i.ty = some τ → zcells τ z.cells.toList = some []) := by
 obtain ⟨j, z, h1, h2, h3, h4, h5, _, _, h6⟩ := h.info
 exact ⟨z, by simp [zeroValue, typeInfo, h1, h4], h5, fun τ hτ => (h6 τ hτ).2.2.2⟩

theorem TOK1.run_isAgg (h : TOK1 P t i) : (isAgg t).run P w = .ok i.d.isAgg w := by
 obtain ⟨D, h1, h2⟩ := h.und
 simp only [isAgg, Sem.run_bind, run_underlying h1, Result.andThen_ok]
 cases hd : i.d <;> rw [hd] at h2 <;> simp only [TD.fits] at h2
 case struct fs => obtain ⟨fields, rfl, _⟩ := h2; rfl
 case other =>
  split
  ·rename_i fs; exact absurd rfl (h2 fs).1
  ·rename_i n e; exact absurd rfl ((h2 #[]).2 n e)
  ·rfl
 all_goals (subst h2; rfl)

theorem TOK1.tyok (h : TOK1 P t i) {τ : Ty} (hτ : i.ty = some τ) : τ.ok ∧ τ.size = i.size ∧ τ.isAgg = i.d.isAgg := by
 obtain ⟨j, z, _, _, _, _, _, _, _, h6⟩ := h.info
 obtain ⟨h1, h2, h3, _⟩ := h6 τ hτ
 exact ⟨Ty.ok_of_okB h1, h2, h3⟩

theorem TOK1.size_one (h : TOK1 P t i) (ha : i.d.isAgg = false) : i.size = 1 := by
 obtain ⟨j, z, _, _, _, _, _, h5, _⟩ := h.info
 exact (h5 ha).2
end

def grOf (agg : Bool) : List Slot → Option GR
 | [.cell g] => if agg then some (.agg [.cell g]) else some (.at g)
 | ss => if agg then some (.agg ss) else none

theorem grOf_rel {μ : Map} {w : World} {own : Nat → Prop} {b : Bool} {ss : List Slot} {g : GR} {cs : List Value} (h : grOf b ss = some g) (hv : VS μ w own ss cs) :
  (b = true ∧ VR μ w own g (.agg cs.toArray)) ∨ (b = false ∧ ∃ v, cs = [v] ∧ VR μ w own g v) := by
 unfold grOf at h
 split at h
 ·rename_i g0
  cases b
  ·simp at h; subst h
   obtain ⟨v, cs', rfl, _, h2, h3⟩ := hv
   simp only [VS] at h3; subst h3
   exact .inr ⟨rfl, v, rfl, h2⟩
  ·simp at h; subst h
   exact .inl ⟨rfl, cs.toArray, rfl, by simpa using hv⟩
 ·cases b
  ·simp at h
  ·simp at h; subst h
   exact .inl ⟨rfl, cs.toArray, rfl, by simpa using hv⟩

theorem run_part {P : Program} {μ : Map} {w : World} {own : Nat → Prop} {t : TypeId} {i : TI} (hi : TOK1 P t i) {ss x : List Slot} {off : Nat} {g : GR} {cs : Array Value} (h : getSlots ss off i.size = some x) (hg : grOf i.d.isAgg x = some g)
  (hv : VS μ w own ss cs.toList) : ∃ v, (part t cs off).run P w = .ok v w ∧ VR μ w own g v := by
 obtain ⟨c1, c2, c3, hc, hl1, hl2, hx⟩ := VS.get h hv
 have hcs : cs = (c1 ++ c2 ++ c3).toArray := by rw [← hc]
 rcases grOf_rel hg hx with ⟨ha, hr⟩ | ⟨ha, v, rfl, hr⟩
 ·refine ⟨_, ?_, hr⟩
  simp only [part, Sem.run_bind, hi.run_isAgg w, ha, Result.andThen_ok, if_true, hi.run_size w, Sem.run_pure]
  congr 2
  apply Array.ext'
  rw [hcs, ← hl1, ← hl2]
  simp
 ·refine ⟨v, ?_, hr⟩
  simp only [part, Sem.run_bind, hi.run_isAgg w, ha, Result.andThen_ok, Bool.false_eq_true, if_false]
  have : cs[off]? = some v := by
   rw [hcs, ← hl1]
   simp
  rw [this]
  rfl

section
variable {P : Program} {T : Tbl} {o : Oper} {a : Act} {μ : Map} {w : World} {H : Heap}

theorem OpOK.val {x : Sem Value} {v : Value} {g : G} {cs : List Prop} (hH : HRel μ w H) (he : execOp a.eval o = (do Pure.pure (.value (← x)))) (hx : x.run P w = .ok v w) (hv : VG μ w (ownOf μ H) g v) :
  OpOK P o a μ w H { val := g, cs := cs } :=
 .pure hH (by rw [he]; simp [hx]) hv

def gField (T : Tbl) (t : TypeId) (x : G) (f : Nat) : Option G :=
 match T[t]?, x with
 | some ti, .r (.agg ss) => (match ti.d with
  | .struct fs => (match fs[f]? with
   | some (ft, off) => (match T[ft]? with
    | some fi => (match getSlots ss off fi.size with
     | some s => (match grOf fi.d.isAgg s with | some g => some (.r g) | none => none)
     | none => none)
    | none => none)
   | none => none)
  | _ => none)
 | _, _ => none

theorem fields_get {fields : Array Field} {fs : List (Nat × Nat)} (h : fields.toList.map (fun f => (f.type, f.offset)) = fs) {f ft off : Nat} (hf : fs[f]? = some (ft, off)) :
  ∃ fd, fields[f]? = some fd ∧ fd.type = ft ∧ fd.offset = off := by
 rw [← h, List.getElem?_map] at hf
 cases hq : fields.toList[f]? with
 | none => rw [hq] at hf; cases hf
 | some fd =>
  rw [hq] at hf
  simp only [Option.map_some, Option.some.injEq, Prod.mk.injEq] at hf
  refine ⟨fd, ?_, hf.1, hf.2⟩
  rw [← hq]; simp

theorem field_ok (hT : TOK P T) {t : TypeId} {x : Operand} {f : Nat} (ho : o.op = .field t x f) {gx g : G} (hg : gField T t gx f = some g) (hx : VG μ w (ownOf μ H) gx (a.eval x)) (hH : HRel μ w H) :
  OpOK P o a μ w H { val := g } := by
 unfold gField at hg
 split at hg
 ·rename_i ti ss hti
  split at hg
  ·rename_i fs hd
   split at hg
   ·rename_i ft off hf
    split at hg
    ·rename_i fi hfi
     split at hg
     ·rename_i s hs
      split at hg
      ·rename_i g0 hg0
       simp only [Option.some.injEq] at hg; subst hg
       obtain ⟨cs, hcs, hv⟩ := hx
       obtain ⟨D, h1, h2, h3⟩ := (hT t ti hti).run_und w
       rw [hd] at h3
       obtain ⟨fields, rfl, hfs⟩ := h3
       obtain ⟨fd, hfd, rfl, rfl⟩ := fields_get hfs hf
       obtain ⟨v, hv1, hv2⟩ := run_part (hT _ _ hfi) hs hg0 hv
       refine .val hH (x := Instr.field t (a.eval x) f) (by simp [execOp, ho]) ?_ hv2
       simp [Instr.field, h1, hfd, hcs, asAgg, hv1]
      all_goals cases hg
     all_goals cases hg
    all_goals cases hg
   all_goals cases hg
  all_goals cases hg
 all_goals cases hg

def gExtract (x : G) (i : Nat) : Option G :=
 match x with
 | .tup gs => (match gs[i]? with | some g => some (.r g) | none => none)
 | _ => none

theorem VL.get {own : Nat → Prop} : {gs : List GR} → {vs : List Value} → VL μ w own gs vs → ∀ {i : Nat} {g : GR}, gs[i]? = some g → ∃ v, vs[i]? = some v ∧ VR μ w own g v
 | [], _, _, i, g, h => by simp at h
 | g0 :: gs, _, hv, i, g, h => by
  obtain ⟨v, vs', rfl, h1, h2⟩ := hv
  cases i with
  | zero => simp at h; subst h; exact ⟨v, rfl, h1⟩
  | succ i => exact VL.get h2 (i := i) (by simpa using h)

theorem extract_ok {x : Operand} {i : Nat} (ho : o.op = .extract x i) {gx g : G} (hg : gExtract gx i = some g) (hx : VG μ w (ownOf μ H) gx (a.eval x)) (hH : HRel μ w H) :
  OpOK P o a μ w H { val := g } := by
 unfold gExtract at hg
 split at hg
 ·split at hg
  ·rename_i gs g0 h0
   simp only [Option.some.injEq] at hg; subst hg
   obtain ⟨vs, hvs, hl⟩ := hx
   obtain ⟨v, hv1, hv2⟩ := VL.get hl h0
   refine .val hH (x := Instr.extract (a.eval x) i) (by simp [execOp, ho]) (v := v) ?_ hv2
   simp [Instr.extract, hvs, show vs[i]? = some v by simpa using hv1]
  ·cases hg
 ·cases hg

theorem move_ok {x : Operand} (ho : o.op = .move x ∨ o.op = .assign x) {gx : G} (hx : VG μ w (ownOf μ H) gx (a.eval x)) (hH : HRel μ w H) : OpOK P o a μ w H { val := gx } := by
 refine .pure hH (v := a.eval x) ?_ hx
 rcases ho with ho | ho <;> simp [execOp, ho]

theorem pick_ok {c x y : Operand} (ho : o.op = .pick c x y) {gx gy : G} {cb d : Bool} (hc : VG μ w (ownOf μ H) (.a (.bool cb)) (a.eval c)) (hx : VG μ w (ownOf μ H) gx (a.eval x)) (hy : VG μ w (ownOf μ H) gy (a.eval y)) (hd : cb = d)
  (hH : HRel μ w H) : OpOK P o a μ w H { val := if d then gx else gy, cs := [cb = d] } := by
 subst hd
 have hc' : a.eval c = .bool cb := hc
 cases cb
 ·exact .pure hH (v := a.eval y) (by simp [execOp, ho, hc', asBool]) hy
 ·exact .pure hH (v := a.eval x) (by simp [execOp, ho, hc', asBool]) hx

theorem bin_ok (hT : TOK P T) {op : BinOp} {t yt : TypeId} {x y : Operand} (ho : o.op = .binOp op t x y yt) {ti : TI} (hti : T[t]? = some ti) {gx gy g : GA} {cs : List Prop} (hg : binG ti.d op gx gy = some (g, cs)) (hc : AllP cs)
  (hx : VG μ w (ownOf μ H) (.a gx) (a.eval x)) (hy : VG μ w (ownOf μ H) (.a gy) (a.eval y)) (hH : HRel μ w H) : OpOK P o a μ w H { val := .a g, cs := cs } := by
 obtain ⟨D, hD, hd⟩ := (hT t ti hti).und
 obtain ⟨v, hv1, hv2⟩ := binG_rel hD hd hg hc hx hy x y
 exact .val hH (x := (do eqGuard op t x y (a.eval x) (a.eval y); binOp op t (a.eval x) (a.eval y))) (by simp [execOp, ho]) hv1 hv2

def unG (op : UnOp) (x : GA) : Option GA :=
 match op, x with
 | .not, .bool b => some (.bool (!b))
 | .neg, .int k n => some (.int k (k.wrap (0 - n)))
 | .xor, .int k n => some (.int k (iNot k n))
 | _, _ => none

theorem un_ok {op : UnOp} {t : TypeId} {x : Operand} (ho : o.op = .unOp op t x) {gx g : GA} (hg : unG op gx = some g) (hx : VG μ w (ownOf μ H) (.a gx) (a.eval x)) (hH : HRel μ w H) :
  OpOK P o a μ w H { val := .a g } := by
 have hx' : VA μ w (ownOf μ H) gx (a.eval x) := hx
 have he : execOp a.eval o = (do Pure.pure (.value (← Op.unary op (a.eval x)))) := by simp [execOp, ho]
 unfold unG at hg
 split at hg
 all_goals first | (cases hg; done) | skip
 all_goals simp only [Option.some.injEq] at hg; subst hg; simp only [VA] at hx'
 ·exact .val hH he (v := .bool _) (by rw [hx']; simp [Op.unary]) rfl
 ·exact .val hH he (v := .int _ _) (by rw [hx']; simp [Op.unary, Op.intArith]) rfl
 ·exact .val hH he (v := .int _ _) (by rw [hx']; simp [Op.unary, Op.intBits, iNot, iXor]) rfl

theorem conv_ok (hT : TOK P T) {s t : TypeId} {x : Operand} (ho : o.op = .convert s t x) {si ti : TI} (hsi : T[s]? = some si) (hti : T[t]? = some ti) {k k' : IntKind} {n : Int} (hd : ti.d = .int k) (hx : VG μ w (ownOf μ H) (.a (.int k' n)) (a.eval x)) (hH : HRel μ w H) :
  OpOK P o a μ w H { val := .a (.int k (k.wrap n)) } := by
 have hx' : a.eval x = .int k' n := hx
 obtain ⟨S, hS, _⟩ := (hT s si hsi).und
 obtain ⟨D, hD, hf⟩ := (hT t ti hti).und
 rw [hd] at hf
 simp only [TD.fits] at hf
 subst hf
 refine .val hH (x := convert s t (a.eval x)) (by simp [execOp, ho]) (v := .int k (k.wrap n)) ?_ rfl
 rw [hx']
 simp only [convert, Sem.run_bind, run_underlying hS, run_underlying hD, Result.andThen_ok]
 cases S <;> rfl

def spine1 (g : GA) : List GA → GA
 | [] => g
 | x :: xs => spine1 (.app1 g x) xs
def spine2 (g : GA) : List GA → GA
 | [] => g
 | y :: ys => spine2 (.app2 g y) ys
def spine (g : GA) (xs ys : List GA) : GA := spine2 (spine1 g xs) ys

theorem spine_rel {μ : Map} {w : World} {own : Nat → Prop} : {xs ys : List GA} → {g : GA} → {fn : Fn} → {first caps : Array Value} → {vx vy : List Value} → VA μ w own g (.func fn first caps) → VL μ w own (xs.map .at) vx → VL μ w own (ys.map .at) vy →
  VA μ w own (spine g xs ys) (.func fn (first ++ vx.toArray) (caps ++ vy.toArray))
 | x :: xs, ys, g, fn, first, caps, vx, vy, hg, hx, hy => by
  obtain ⟨v, vs', rfl, h1, h2⟩ := hx
  have := spine_rel (xs := xs) (ys := ys) (g := .app1 g x) (fn := fn) (first := first.push v) (caps := caps) ⟨fn, first, caps, v, rfl, hg, h1⟩ h2 hy
  simpa [spine, spine1, spine2] using this
 | [], y :: ys, g, fn, first, caps, vx, vy, hg, hx, hy => by
  obtain ⟨v, vs', rfl, h1, h2⟩ := hy
  simp only [List.map_nil, VL] at hx
  subst hx
  have := spine_rel (xs := []) (ys := ys) (g := .app2 g y) (fn := fn) (first := first) (caps := caps.push v) ⟨fn, first, caps, v, rfl, hg, h1⟩ (vx := []) (by simp [VL]) h2
  simpa [spine, spine1, spine2] using this
 | [], [], g, fn, first, caps, vx, vy, hg, hx, hy => by
  simp only [List.map_nil, VL] at hx hy
  subst hx; subst hy
  simpa [spine, spine1, spine2] using hg

def atoms : List G → Option (List GA)
 | [] => some []
 | .r (.at g) :: r => (match atoms r with | some l => some (g :: l) | none => none)
 | _ => none

theorem atoms_rel {ev : Operand → G} {a : Act} {μ : Map} {w : World} {own : Nat → Prop} : {xs : List Operand} → {gs : List GA} → atoms (xs.map ev) = some gs → (∀ x ∈ xs, VG μ w own (ev x) (a.eval x)) → VL μ w own (gs.map .at) (xs.map a.eval)
 | [], gs, h, _ => by simp [atoms] at h; subst h; simp [VL]
 | x :: xs, gs, h, hx => by
  rw [List.map_cons] at h
  unfold atoms at h
  split at h
  ·rename_i he; cases he
  ·rename_i g r he
   split at h
   ·rename_i l hl
    simp only [Option.some.injEq] at h; subst h
    simp only [List.cons.injEq] at he
    obtain ⟨he1, rfl⟩ := he
    have h0 := hx x (by simp)
    rw [he1] at h0
    exact ⟨_, _, rfl, h0, atoms_rel hl fun y hy => hx y (by simp [hy])⟩
   ·cases h
  ·cases h

theorem func_ok {f : FuncId} {first caps : Array Operand} (ho : o.op = .makeFunc (.func f) first caps) {ev : Operand → G} {g1 g2 : List GA} (h1 : atoms (first.toList.map ev) = some g1) (h2 : atoms (caps.toList.map ev) = some g2)
  (hx : ∀ x ∈ first.toList ++ caps.toList, VG μ w (ownOf μ H) (ev x) (a.eval x)) (hH : HRel μ w H) : OpOK P o a μ w H { val := .a (spine (.fn f) g1 g2) } := by
 have := spine_rel (μ := μ) (w := w) (own := ownOf μ H) (g := .fn f) (fn := .func f) (first := #[]) (caps := #[]) rfl (atoms_rel h1 fun x hx' => hx x (by simp [hx'])) (atoms_rel h2 fun x hx' => hx x (by simp [hx']))
 refine .pure hH (v := .func (.func f) (first.map a.eval) (caps.map a.eval)) (by simp [execOp, ho, Instr.makeFunc]) ?_
 show VA μ w (ownOf μ H) _ _
 have e : ∀ xs : Array Operand, xs.map a.eval = (xs.toList.map a.eval).toArray := fun xs => Array.ext' (by simp)
 rw [e, e]
 simpa using this

end

end Go.Gh
