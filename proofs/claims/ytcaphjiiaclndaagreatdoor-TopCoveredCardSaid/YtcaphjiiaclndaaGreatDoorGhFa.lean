/- Arrays of integers are held against each other. -/
import Derived.Test.YtcaphjiiaclndaaGreatDoorGhF
namespace Go.Gh
set_option linter.unusedVariables false
set_option linter.unusedSimpArgs false

theorem all_eqL : ∀ (xs ys : List Int), xs.length = ys.length → (List.range xs.length).all (fun i => xs.getD i 0 == ys.getD i 0) = eqL xs ys
 | [], [], _ => rfl
 | x :: xs, y :: ys, h => by
  have ih := all_eqL xs ys (by simpa using h)
  unfold eqL at ih ⊢
  rw [List.length_cons, List.range_succ_eq_map]
  simp only [List.all_cons, List.all_map]
  rw [List.cons_beq_cons, ← ih]
  rfl
 | [], _ :: _, h => by simp at h
 | _ :: _, [], h => by simp at h

theorem run_equalIn_ints {P : Program} (w : World) (d : Nat) (t e : TypeId) (k : IntKind) (n : Nat) (ht : P.underlying t = some (.array n e)) (he : P.underlying e = some (.int k)) (hsz : (sizeOf e).run P w = .ok 1 w)
  (xs ys : List Int) (hx : xs.length = n) (hy : ys.length = n) :
  (Op.equalIn (d + 2) t (.agg (xs.map (Value.int k)).toArray) (.agg (ys.map (Value.int k)).toArray)).run P w = .ok (eqL xs ys) w := by
 rw [← all_eqL xs ys (hx.trans hy.symm), hx, List.range_eq_range', Op.equalIn]
 simp only [Sem.run_bind, run_underlying ht, Result.andThen_ok, hsz, Std.Legacy.Range.forIn_eq_forIn_range', Std.Legacy.Range.size, Nat.sub_zero, Nat.add_sub_cancel, Nat.div_one]
 have hl : ∀ i ∈ List.range' 0 n 1, i < n := fun i hi => by simpa using (List.mem_range'_1.1 hi).2
 generalize List.range' 0 n 1 = l at hl ⊢
 induction l with
 | nil => simp
 | cons i l ih =>
  have hi : i < n := hl i (by simp)
  have px : (part e (xs.map (Value.int k)).toArray (i * 1)).run P w = .ok (.int k (xs.getD i 0)) w := by
   simp [Go.part, isAgg, run_underlying he, List.getD, List.getElem?_eq_getElem (show i < xs.length by omega)]
  have py : (part e (ys.map (Value.int k)).toArray (i * 1)).run P w = .ok (.int k (ys.getD i 0)) w := by
   simp [Go.part, isAgg, run_underlying he, List.getD, List.getElem?_eq_getElem (show i < ys.length by omega)]
  have pe : (Op.equalIn (d + 1) e (.int k (xs.getD i 0)) (.int k (ys.getD i 0))).run P w = .ok (xs.getD i 0 == ys.getD i 0) w := by
   simp [Op.equalIn, run_underlying he]
  simp only [List.forIn_cons, Sem.run_bind, px, py, pe, Result.andThen_ok, List.all_cons]
  cases hb : (xs.getD i 0 == ys.getD i 0)
  ·simp
  ·simp only [Bool.not_true, Bool.false_eq_true, if_false, Sem.run_pure, Result.andThen_ok, Bool.true_and]
   exact ih fun j hj => hl j (by simp [hj])

theorem repAll_ints {w : World} {own : Nat → Prop} {k : IntKind} : ∀ {xs : List Int} {cs : List Value}, RepAll w own (.int k) xs cs → cs = xs.map (Value.int k)
 | [], cs, h => by simpa [RepAll] using h
 | x :: xs, cs, h => by
  obtain ⟨c1, c2, rfl, h1, h2⟩ := h
  simp only [Rep] at h1
  rw [h1, repAll_ints h2]; rfl

def gArrEq0 (T : Tbl) (op : BinOp) (t : TypeId) (x y : List Slot) : Option G :=
 match op, T[t]?, x, y with
 | .eql, some ti, [.arr (.int k) n xs], [.arr (.int k') n' ys] => (match ti.d with
  | .array m e => (match T[e]? with
   | some ei => if k = k' ∧ n = m ∧ n' = m ∧ ei.size = 1 ∧ ei.d = .int k then some (.a (.bool (eqL xs ys))) else none
   | none => none)
  | _ => none)
 | .neq, some ti, [.arr (.int k) n xs], [.arr (.int k') n' ys] => (match ti.d with
  | .array m e => (match T[e]? with
   | some ei => if k = k' ∧ n = m ∧ n' = m ∧ ei.size = 1 ∧ ei.d = .int k then some (.a (.bool (!eqL xs ys))) else none
   | none => none)
  | _ => none)
 | _, _, _, _ => none

section
variable {P : Program} {T : Tbl} {o : Oper} {a : Act} {μ : Map} {w : World} {H : Heap}
theorem arrEq0_ok (hT : TOK P T) {op : BinOp} {t yt : TypeId} {x y : Operand} (ho : o.op = .binOp op t x y yt) {sx sy : List Slot} {g : G} (hg : gArrEq0 T op t sx sy = some g)
  (hx : VG μ w (ownOf μ H) (.r (.agg sx)) (a.eval x)) (hy : VG μ w (ownOf μ H) (.r (.agg sy)) (a.eval y)) (hH : HRel μ w H) : OpOK P o a μ w H { val := g } := by
 have key : ∀ {ti ei : TI} {k : IntKind} {m : Nat} {e : TypeId} {xs ys : List Int}, T[t]? = some ti → ti.d = .array m e → T[e]? = some ei → ei.size = 1 → ei.d = .int k →
   VG μ w (ownOf μ H) (.r (.agg [.arr (.int k) m xs])) (a.eval x) → VG μ w (ownOf μ H) (.r (.agg [.arr (.int k) m ys])) (a.eval y) →
   (Op.equal t (a.eval x) (a.eval y)).run P w = .ok (eqL xs ys) w ∧ (eqGuard op t x y (a.eval x) (a.eval y)).run P w = .ok () w ∧ ∃ cs ds, a.eval x = .agg cs ∧ a.eval y = .agg ds := by
  intro ti ei k m e xs ys h1 h2 h3 h4 h5 hx hy
  obtain ⟨D, hD, hd⟩ := (hT t ti h1).und
  rw [h2] at hd; simp only [TD.fits] at hd; subst hd
  obtain ⟨D', hD', hd'⟩ := (hT e ei h3).und
  rw [h5] at hd'; simp only [TD.fits] at hd'; subst hd'
  obtain ⟨cs, hcs, _, hl1, c1, c2, hc, hr1, hn1⟩ := hx
  obtain ⟨ds, hds, _, hl2, d1, d2, hd, hr2, hn2⟩ := hy
  simp only [VS] at hn1 hn2; subst hn1; subst hn2
  rw [List.append_nil] at hc hd
  have e1 : cs = (xs.map (Value.int k)).toArray := by rw [← repAll_ints hr1, ← hc]
  have e2 : ds = (ys.map (Value.int k)).toArray := by rw [← repAll_ints hr2, ← hd]
  have hsz : (sizeOf e).run P w = .ok 1 w := by have := (hT e ei h3).run_size w; rwa [h4] at this
  refine ⟨?_, ?_, cs, ds, hcs, hds⟩
  ·rw [hcs, hds, e1, e2]
   exact run_equalIn_ints w 9998 t e k m hD hD' hsz xs ys hl1 hl2
  ·rw [hcs, hds]
   have hdep : ∃ d, P.depth = d + 2 := ⟨2 * (P.types.size + Made.depth), rfl⟩
   obtain ⟨d, hdep⟩ := hdep
   have hgt : P.eqGuardType P.depth t = false := by rw [hdep]; simp [Program.eqGuardType, hD, hD']
   cases op <;> simp [eqGuard, program, Sem.run, hgt]
 unfold gArrEq0 at hg
 split at hg
 ·rename_i ti k n xs k' n' ys hti
  split at hg
  rotate_left
  ·cases hg
  rename_i m e hd
  split at hg
  rotate_left
  ·cases hg
  rename_i ei hei
  split at hg
  rotate_left
  ·cases hg
  rename_i h
  obtain ⟨rfl, rfl, rfl, h4, h5⟩ := h
  simp only [Option.some.injEq] at hg; subst hg
  obtain ⟨q1, q2, cs, ds, q3, q4⟩ := key hti hd hei h4 h5 hx hy
  exact .val hH (x := (do eqGuard .eql t x y (a.eval x) (a.eval y); binOp .eql t (a.eval x) (a.eval y))) (v := .bool (eqL xs ys)) (by simp [execOp, ho]) (by rw [Sem.run_bind, q2]; simp [q3, q4, binOp] at q1 ⊢; simp [q1]) rfl
 ·rename_i ti k n xs k' n' ys hti
  split at hg
  rotate_left
  ·cases hg
  rename_i m e hd
  split at hg
  rotate_left
  ·cases hg
  rename_i ei hei
  split at hg
  rotate_left
  ·cases hg
  rename_i h
  obtain ⟨rfl, rfl, rfl, h4, h5⟩ := h
  simp only [Option.some.injEq] at hg; subst hg
  obtain ⟨q1, q2, cs, ds, q3, q4⟩ := key hti hd hei h4 h5 hx hy
  exact .val hH (x := (do eqGuard .neq t x y (a.eval x) (a.eval y); binOp .neq t (a.eval x) (a.eval y))) (v := .bool (!eqL xs ys)) (by simp [execOp, ho]) (by rw [Sem.run_bind, q2]; simp [q3, q4, binOp] at q1 ⊢; simp [q1]) rfl
 ·cases hg

def asArr : List Slot → List Slot
 | [.cell (.int k a), .cell (.int k' b)] => if k = k' then [.arr (.int k) 2 [a, b]] else [.cell (.int k a), .cell (.int k' b)]
 | ss => ss

theorem asArr_rel {own : Nat → Prop} {ss : List Slot} {v : Value} (h : VG μ w own (.r (.agg ss)) v) : VG μ w own (.r (.agg (asArr ss))) v := by
 unfold asArr
 split
 ·rename_i k a k' b
  split
  ·rename_i hk
   subst hk
   obtain ⟨cs, hv, v1, c1, hc1, _, h1, v2, c2, hc2, _, h2, h3⟩ := h
   have h1 : v1 = .int k a := h1
   have h2 : v2 = .int k b := h2
   have h3 : c2 = [] := h3
   subst h1; subst h2; subst h3
   refine ⟨cs, hv, trivial, rfl, [.int k a, .int k b], [], ?_, ?_, rfl⟩
   ·rw [hc1, hc2]; rfl
   ·exact ⟨[.int k a], [.int k b], rfl, rfl, [.int k b], [], rfl, rfl, rfl⟩
  ·exact h
 ·exact h

def gArrEq (T : Tbl) (op : BinOp) (t : TypeId) (x y : List Slot) : Option G := gArrEq0 T op t (asArr x) (asArr y)

theorem arrEq_ok (hT : TOK P T) {op : BinOp} {t yt : TypeId} {x y : Operand} (ho : o.op = .binOp op t x y yt) {sx sy : List Slot} {g : G} (hg : gArrEq T op t sx sy = some g)
  (hx : VG μ w (ownOf μ H) (.r (.agg sx)) (a.eval x)) (hy : VG μ w (ownOf μ H) (.r (.agg sy)) (a.eval y)) (hH : HRel μ w H) : OpOK P o a μ w H { val := g } :=
 arrEq0_ok hT ho hg (asArr_rel hx) (asArr_rel hy) hH
end
end Go.Gh
