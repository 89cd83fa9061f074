/- More operations: an index of a text, max, copy. -/
import Derived.Test.YtdbaljbhnpchjaaGhN
import Derived.Test.YtdbaljbhnpchjaaGhPl
namespace Go.Gh
set_option linter.unusedVariables false
set_option linter.unusedSimpArgs false

section
variable {P : Program} {T : Tbl} {o : Oper} {a : Act} {μ : Map} {w : World} {H : Heap}

def gX (T : Tbl) (o : Oper) (ev : Operand → G) (H : Heap) : Option OR :=
 match o.op with
 | .index t x i => (match T[t]?, ev x, ev i with
  | some ti, .r (.at (.str s)), .r (.at (.int _ n)) => (match ti.d with
   | .str => some { val := .a (.int .u8 (strAt s n)), cs := [0 ≤ n ∧ n < (ByteArray.size s : Int)] }
   | _ => none)
  | some ti, .r (.agg [.arr τ m xs]), .r (.at (.int _ n)) => (match ti.d with
   | .array len e => (match T[e]? with
    | some ei => if ei.d.isAgg = false ∧ τ.isAgg = false ∧ τ.size = 1 ∧ ei.size = 1 ∧ len = m then some { val := .a (ofDenA τ ((xs[n.toNat]?).getD τ.dflt)), cs := [0 ≤ n ∧ n < (m : Int)] } else none
    | none => none)
   | _ => none)
  | _, _, _ => none)
 | .call c => (match c.callee, c.args.toList, c.argTypes.toList with
  | .builtin .max, [x, y], [_, _] => (match ev x, ev y with
   | .r (.at (.int k m)), .r (.at (.int _ n)) => some { val := .a (.int k (if n > m then n else m)) }
   | _, _ => none)
  | .builtin .min, [x, y], [_, _] => (match ev x, ev y with
   | .r (.at (.int k m)), .r (.at (.int _ n)) => some { val := .a (.int k (if n < m then n else m)) }
   | _, _ => none)
  | _, _, _ => none)
 | _ => none

theorem gX_ok (hT : TOK P T) {o : Oper} {ev : Operand → G} {H0 : Heap} {R : OR} (hg : gX T o ev H0 = some R) (hc : AllP R.cs) (hrd : ∀ x ∈ R.rd, H x.1 = some x.2)
  (hx : ∀ x ∈ o.op.operands.toList, VG μ w (ownOf μ H) (ev x) (a.eval x)) (hH : HRel μ w H) : OpOK P o a μ w H R := by
 unfold gX at hg
 split at hg
 ·rename_i t x i ho
  split at hg
  rotate_left
  ·rename_i ti τ m xs k n hti hev1 hev2
   split at hg
   rotate_left
   ·cases hg
   rename_i len e hd
   split at hg
   rotate_left
   ·cases hg
   rename_i ei hei
   split at hg
   rotate_left
   ·cases hg
   rename_i hcond
   obtain ⟨hag, hta, hts, hes, rfl⟩ := hcond
   simp only [Option.some.injEq] at hg; subst hg
   obtain ⟨⟨h0, h1⟩, _⟩ := hc
   have e1 := hx x (by simp [ho, Op.operands])
   have e2 := hx i (by simp [ho, Op.operands])
   rw [hev1] at e1; rw [hev2] at e2
   have e2 : a.eval i = .int k n := e2
   obtain ⟨cs, hcs, hvs⟩ := e1
   obtain ⟨hok, hl, c1, cs', hcc, hrep, hnil⟩ := hvs
   simp only [VS] at hnil; subst hnil
   rw [List.append_nil] at hcc
   obtain ⟨D, hr, hD, hf⟩ := (hT t ti hti).run_und w
   rw [hd] at hf; simp only [TD.fits] at hf; subst hf
   have hlt : n.toNat < xs.length := by omega
   have hget : xs[n.toNat]? = some xs[n.toNat] := List.getElem?_eq_getElem hlt
   obtain ⟨vs, hvl, hrv, hcell⟩ := hrep.get n.toNat _ hget
   rw [hts] at hvl hcell
   obtain ⟨u, rfl⟩ := List.length_eq_one_iff.1 hvl
   have hc0 := hcell 0 u (by simp)
   rw [Nat.mul_one, Nat.add_zero] at hc0
   have hc0' : cs[n.toNat]? = some u := by rw [← Array.getElem?_toList, hcc]; exact hc0
   refine .val hH (x := Instr.index t (a.eval x) (a.eval i)) (by simp [execOp, ho]) (v := u) ?_ ?_
   ·simp [Instr.index, asIntOf, e2, hcs, hr, h0, h1, (hT e ei hei).run_size w, hes, part, (hT e ei hei).run_isAgg w, hag, hc0']
   ·rw [hget, Option.getD_some]
    exact ofDenA_rel hok hta hrv
  ·cases hg
  rename_i ti s k n hti hev1 hev2
  split at hg
  rotate_left
  ·cases hg
  rename_i hd
  simp only [Option.some.injEq] at hg; subst hg
  obtain ⟨⟨h0, h1⟩, _⟩ := hc
  have e1 := hx x (by simp [ho, Op.operands])
  have e2 := hx i (by simp [ho, Op.operands])
  rw [hev1] at e1; rw [hev2] at e2
  have e1 : a.eval x = .string s := e1
  have e2 : a.eval i = .int k n := e2
  obtain ⟨D, hr, hD, hf⟩ := (hT t ti hti).run_und w
  rw [hd] at hf; simp only [TD.fits] at hf; subst hf
  have hlt : n.toNat < s.size := by omega
  refine .pure hH (v := .int .u8 (strAt s n)) ?_ rfl
  have hget : s[n.toNat]? = some s[n.toNat] := by simp [hlt]
  have hval : strAt s n = ((s[n.toNat]).toNat : Int) := by
   unfold strAt
   have : s.data[n.toNat]? = some s[n.toNat] := by
    rw [Array.getElem?_eq_getElem (by simpa using hlt)]; rfl
   rw [this]; rfl
  simp [execOp, ho, Instr.index, asIntOf, e1, e2, hr, h0, hget, hval]
 ·rename_i c ho
  split at hg
  ·rename_i x y t1 t2 hc1 hc2 hc3
   have ho := ho.trans (congrArg Op.call (call_eq hc1 hc2 hc3))
   split at hg
   rotate_left
   ·cases hg
   rename_i k m k' n hev1 hev2
   simp only [Option.some.injEq] at hg; subst hg
   have e1 := hx x (by simp [ho, Op.operands, Call.operands])
   have e2 := hx y (by simp [ho, Op.operands, Call.operands])
   rw [hev1] at e1; rw [hev2] at e2
   have e1 : a.eval x = .int k m := e1
   have e2 : a.eval y = .int k' n := e2
   refine .pure hH (v := .int k (if n > m then n else m)) ?_ rfl
   simp [execOp, ho, resolve, invoke, builtin, Builtin.max_, Builtin.max2, e1, e2]
  ·rename_i x y t1 t2 hc1 hc2 hc3
   have ho := ho.trans (congrArg Op.call (call_eq hc1 hc2 hc3))
   split at hg
   rotate_left
   ·cases hg
   rename_i k m k' n hev1 hev2
   simp only [Option.some.injEq] at hg; subst hg
   have e1 := hx x (by simp [ho, Op.operands, Call.operands])
   have e2 := hx y (by simp [ho, Op.operands, Call.operands])
   rw [hev1] at e1; rw [hev2] at e2
   have e1 : a.eval x = .int k m := e1
   have e2 : a.eval y = .int k' n := e2
   refine .pure hH (v := .int k (if n < m then n else m)) ?_ rfl
   simp [execOp, ho, resolve, invoke, builtin, Builtin.min_, Builtin.min2, e1, e2]
  ·cases hg
 ·cases hg

def gOpX (T : Tbl) (o : Oper) (ev : Operand → G) (H : Heap) (es : List En) : Option (OR × List En) :=
 match gOp T o ev H es with
 | some r => some r
 | none => (match gX T o ev H with | some R => some (R, es) | none => none)

theorem gOpX_ok (hT : TOK P T) {o : Oper} {ev : Operand → G} {H0 : Heap} {es es' : List En} {R : OR} (hg : gOpX T o ev H0 es = some (R, es')) (hc : AllP R.cs) (hrd : ∀ x ∈ R.rd, H x.1 = some x.2)
  (hx : ∀ x ∈ o.op.operands.toList, VG μ w (ownOf μ H) (ev x) (a.eval x)) (hH : HRel μ w H) : OpOK P o a μ w H R := by
 unfold gOpX at hg
 split at hg
 ·rename_i r hr
  cases hg
  exact gOp_ok hT hr hc hrd hx hH
 ·split at hg
  ·rename_i R' hr
   cases hg
   exact gX_ok hT hr hc hrd hx hH
  ·cases hg

theorem gOpX_nd {o : Oper} {ev : Operand → G} {es : List En} {r : OR × List En} (hg : gOpX T o ev H es = some r) (c : Call) : o.op ≠ .defer c := by
 intro h
 unfold gOpX at hg
 simp [gOp, gX, h] at hg

end
end Go.Gh
