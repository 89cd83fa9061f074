/- More operations: an index of a text, max, copy. -/
import Derived.Test.YtkjlgbnbpeijbaaGhN
import Derived.Test.YtkjlgbnbpeijbaaGhPl
namespace Go.Gh
set_option linter.unusedVariables false
set_option linter.unusedSimpArgs false

section
variable {P : Program} {T : Tbl} {o : Oper} {a : Act} {μ : Map} {w : World} {H : Heap}

def gSliceC (T : Tbl) (H : Heap) (t : TypeId) (x : GA) (lo hi : Option Int) : Option OR :=
 match x with
 | .sl n 0 len => (match T[t]? with
  | some ti => (match ti.d with
   | .slice e => (match T[e]?, H n with
    | some ei, some (.gr τ e' xs mv) => if τ.size = ei.size then
     some { val := .a (.sl n 0 (List.length (List.drop (lo.getD 0).toNat (List.take (hi.getD len).toNat xs)))), rd := [(n, .gr τ e' xs mv)], wr := [(n, some (.gr τ e' (List.drop (lo.getD 0).toNat (List.take (hi.getD len).toNat xs)) true))], mv := [n], cs := [0 ≤ lo.getD 0 ∧ lo.getD 0 ≤ hi.getD len ∧ hi.getD len ≤ (len : Int) ∧ 0 < len, len ≤ List.length xs, lo.getD 0 < hi.getD len ∨ lo.getD 0 = 0] } else none
    | _, _ => none)
   | _ => none)
  | none => none)
 | _ => none

theorem sliceC_ok (hT : TOK P T) {t : TypeId} {x : Operand} {ol oh om : Option Operand} (ho : o.op = .slice t x ol oh om) {H0 : Heap} {gx : GA} {lo hi : Option Int} {R : OR} (hg : gSliceC T H0 t gx lo hi = some R) (hc : AllP R.cs)
  (hrd : ∀ x ∈ R.rd, H x.1 = some x.2) (hx : VG μ w (ownOf μ H) (.a gx) (a.eval x)) (hl : BV lo (ol.map a.eval)) (hh : BV hi (oh.map a.eval)) (hm : BV none (om.map a.eval)) (hH : HRel μ w H) : OpOK P o a μ w H R := by
 unfold gSliceC at hg
 split at hg
 rotate_left
 ·cases hg
 rename_i n len
 split at hg
 rotate_left
 ·cases hg
 rename_i ti hti
 split at hg
 rotate_left
 ·cases hg
 rename_i e hd
 split at hg
 rotate_left
 ·cases hg
 rename_i ei τ e' xs mv hei hHn
 split at hg
 rotate_left
 ·cases hg
 rename_i hsz
 simp only [Option.some.injEq] at hg; subst hg
 obtain ⟨⟨h0, h1, h2, h3⟩, h4, h5, _⟩ := hc
 have hx' : VA μ w (ownOf μ H) (.sl n 0 len) (a.eval x) := hx
 have hn := hrd (n, .gr τ e' xs mv) (by simp)
 obtain ⟨⟨hp, hok⟩, hb⟩ := hH.blk n _ hn
 have hmn : om.map a.eval = none := by cases hq : om.map a.eval with | none => rfl | some _ => rw [hq] at hm; exact hm.elim
 rcases hx' with ⟨_, _, h6, _⟩ | ⟨l, of, hl', hcap, hv, hof⟩
 ·omega
 rcases hb with ⟨h6, _⟩ | ⟨l', c, hl'', hls, hb, hcs, hxl, hcm, hrep⟩
 ·rw [hl'] at h6; cases h6
 rw [hl'] at hl''; cases hl''
 have hof := hof (.inr rfl)
 rw [Nat.zero_mul, Nat.add_zero] at hof
 subst hof
 rw [Nat.sub_zero] at hv
 have hb2 := run_sliceBounds (P := P) (w := w) true len l.cap hl hh h0 h1 (by omega)
 generalize hlo : (lo.getD 0).toNat = p at *
 generalize hhi : (hi.getD (len : Int)).toNat = q at *
 have hpq : p ≤ q := by omega
 have hql : q ≤ len := by omega
 have hpc : p < l.cap := by omega
 have hqx : q ≤ List.length xs := by omega
 let l1 : Loc := ⟨l.blk, l.cap - p, l.size, l.base + p * τ.size⟩
 have hpm : p * τ.size ≤ l.cap * τ.size := Nat.mul_le_mul_right _ (by omega)
 have hlen : List.length (List.drop p (List.take q xs)) = q - p := by simp; omega
 rw [hlen]
 have key := hH.step (n := n) (b := .gr τ e' (List.drop p (List.take q xs)) true) (mv := [n]) (μ' := upd μ n (some l1)) (w' := w) rfl (fun m hm => upd_other _ _ _ (by simpa using hm)) (fun m hm => upd_other _ _ _ hm) (by simp) (Nat.le_refl _) rfl rfl rfl (fun _ _ _ => rfl)
  (fun l2 hl2 => by rw [upd_same] at hl2; cases hl2; exact .inr ⟨by simp [hn], l, hl', rfl⟩) (fun hext => ?_)
 ·refine ⟨.slice (some ⟨l.blk, l.base + p * τ.size, none⟩) (q - p) (l.cap - p), w, upd μ n (some l1), .inl ?_, fun m hm => upd_other _ _ _ (by simpa using hm), key.1, key.2, .inr ⟨l1, l1.base, upd_same .., ?_, ?_, ?_⟩⟩
  ·have he : execOp a.eval o = (do Pure.pure (.value (← Instr.sliceAt t (a.eval x) (ol.map a.eval) (oh.map a.eval) (om.map a.eval)))) := by simp [execOp, ho]
   rw [he, hv, hmn]
   simp only [Sem.run_bind, run_slice (hT t ti hti) hd (hT e ei hei) _ len _ hb2, Result.andThen_ok, Sem.run_pure]
   rw [if_neg (by omega), Option.map_some, Addr.add_eq _ rfl, hsz]
  ·show 0 + (q - p) ≤ l.cap - p
   omega
  ·show Value.slice _ _ _ = Value.slice _ _ (l.cap - p - 0)
   rw [Nat.sub_zero]
  ·intro _; simp
 ·refine ⟨⟨hp, hok⟩, .inr ⟨l1, c, upd_same .., hls, hb, ?_, ?_, ?_, ?_⟩⟩
  ·show l.base + p * τ.size + (l.cap - p) * τ.size ≤ c.size
   rw [Nat.sub_mul]; omega
  ·rw [hlen]; show q - p ≤ l.cap - p; omega
  ·show l.cap - p ≤ maxLen; omega
  ·rw [hlen]
   have r1 := ((hrep.sub q).1.sub p).2.ext hext hok
   have e1 : List.drop (p * τ.size) (List.take (q * τ.size) (List.take (List.length xs * τ.size) (List.drop l.base c.toList))) = List.take ((q - p) * τ.size) (List.drop (l.base + p * τ.size) c.toList) := by
    rw [List.take_take, Nat.min_eq_left (Nat.mul_le_mul_right _ hqx), List.drop_take, List.drop_drop, Nat.sub_mul]
   rw [e1] at r1
   exact r1

def gX (T : Tbl) (o : Oper) (ev : Operand → G) (H : Heap) : Option OR :=
 match o.op with
 | .index t x i => (match T[t]?, ev x, ev i with
  | some ti, .r (.at (.str s)), .r (.at (.int _ n)) => (match ti.d with
   | .str => some { val := .a (.int .u8 (strAt s n)), cs := [0 ≤ n ∧ n < (ByteArray.size s : Int)] }
   | _ => none)
  | some ti, .r (.agg [.arr τ m xs]), .r (.at (.int _ n)) => (match ti.d with
   | .array len e => (match T[e]? with
    | some ei => if ei.d.isAgg = false ∧ τ.isAgg = false ∧ τ.size = 1 ∧ ei.size = 1 ∧ len = m then some { val := .a (ofDenA τ ((xs[n.toNat]?).getD τ.dflt)), cs := [0 ≤ n ∧ n < (m : Int)] } else none
    | none => none)
   | _ => none)
  | _, _, _ => none)
 | .call c => (match c.callee, c.args.toList, c.argTypes.toList with
  | .builtin .max, [x, y], [_, _] => (match ev x, ev y with
   | .r (.at (.int k m)), .r (.at (.int _ n)) => some { val := .a (.int k (if n > m then n else m)) }
   | _, _ => none)
  | .builtin .min, [x, y], [_, _] => (match ev x, ev y with
   | .r (.at (.int k m)), .r (.at (.int _ n)) => some { val := .a (.int k (if n < m then n else m)) }
   | _, _ => none)
  | _, _, _ => none)
 | _ => none

theorem gX_ok (hT : TOK P T) {o : Oper} {ev : Operand → G} {H0 : Heap} {R : OR} (hg : gX T o ev H0 = some R) (hc : AllP R.cs) (hrd : ∀ x ∈ R.rd, H x.1 = some x.2)
  (hx : ∀ x ∈ o.op.operands.toList, VG μ w (ownOf μ H) (ev x) (a.eval x)) (hH : HRel μ w H) : OpOK P o a μ w H R := by
 unfold gX at hg
 split at hg
 ·rename_i t x i ho
  split at hg
  rotate_left
  ·rename_i ti τ m xs k n hti hev1 hev2
   split at hg
   rotate_left
   ·cases hg
   rename_i len e hd
   split at hg
   rotate_left
   ·cases hg
   rename_i ei hei
   split at hg
   rotate_left
   ·cases hg
   rename_i hcond
   obtain ⟨hag, hta, hts, hes, rfl⟩ := hcond
   simp only [Option.some.injEq] at hg; subst hg
   obtain ⟨⟨h0, h1⟩, _⟩ := hc
   have e1 := hx x (by simp [ho, Op.operands])
   have e2 := hx i (by simp [ho, Op.operands])
   rw [hev1] at e1; rw [hev2] at e2
   have e2 : a.eval i = .int k n := e2
   obtain ⟨cs, hcs, hvs⟩ := e1
   obtain ⟨hok, hl, c1, cs', hcc, hrep, hnil⟩ := hvs
   simp only [VS] at hnil; subst hnil
   rw [List.append_nil] at hcc
   obtain ⟨D, hr, hD, hf⟩ := (hT t ti hti).run_und w
   rw [hd] at hf; simp only [TD.fits] at hf; subst hf
   have hlt : n.toNat < xs.length := by omega
   have hget : xs[n.toNat]? = some xs[n.toNat] := List.getElem?_eq_getElem hlt
   obtain ⟨vs, hvl, hrv, hcell⟩ := hrep.get n.toNat _ hget
   rw [hts] at hvl hcell
   obtain ⟨u, rfl⟩ := List.length_eq_one_iff.1 hvl
   have hc0 := hcell 0 u (by simp)
   rw [Nat.mul_one, Nat.add_zero] at hc0
   have hc0' : cs[n.toNat]? = some u := by rw [← Array.getElem?_toList, hcc]; exact hc0
   refine .val hH (x := Instr.index t (a.eval x) (a.eval i)) (by simp [execOp, ho]) (v := u) ?_ ?_
   ·simp [Instr.index, asIntOf, e2, hcs, hr, h0, h1, (hT e ei hei).run_size w, hes, part, (hT e ei hei).run_isAgg w, hag, hc0']
   ·rw [hget, Option.getD_some]
    exact ofDenA_rel hok hta hrv
  ·cases hg
  rename_i ti s k n hti hev1 hev2
  split at hg
  rotate_left
  ·cases hg
  rename_i hd
  simp only [Option.some.injEq] at hg; subst hg
  obtain ⟨⟨h0, h1⟩, _⟩ := hc
  have e1 := hx x (by simp [ho, Op.operands])
  have e2 := hx i (by simp [ho, Op.operands])
  rw [hev1] at e1; rw [hev2] at e2
  have e1 : a.eval x = .string s := e1
  have e2 : a.eval i = .int k n := e2
  obtain ⟨D, hr, hD, hf⟩ := (hT t ti hti).run_und w
  rw [hd] at hf; simp only [TD.fits] at hf; subst hf
  have hlt : n.toNat < s.size := by omega
  refine .pure hH (v := .int .u8 (strAt s n)) ?_ rfl
  have hget : s[n.toNat]? = some s[n.toNat] := by simp [hlt]
  have hval : strAt s n = ((s[n.toNat]).toNat : Int) := by
   unfold strAt
   have : s.data[n.toNat]? = some s[n.toNat] := by
    rw [Array.getElem?_eq_getElem (by simpa using hlt)]; rfl
   rw [this]; rfl
  simp [execOp, ho, Instr.index, asIntOf, e1, e2, hr, h0, hget, hval]
 ·rename_i c ho
  split at hg
  ·rename_i x y t1 t2 hc1 hc2 hc3
   have ho := ho.trans (congrArg Op.call (call_eq hc1 hc2 hc3))
   split at hg
   rotate_left
   ·cases hg
   rename_i k m k' n hev1 hev2
   simp only [Option.some.injEq] at hg; subst hg
   have e1 := hx x (by simp [ho, Op.operands, Call.operands])
   have e2 := hx y (by simp [ho, Op.operands, Call.operands])
   rw [hev1] at e1; rw [hev2] at e2
   have e1 : a.eval x = .int k m := e1
   have e2 : a.eval y = .int k' n := e2
   refine .pure hH (v := .int k (if n > m then n else m)) ?_ rfl
   simp [execOp, ho, resolve, invoke, builtin, Builtin.max_, Builtin.max2, e1, e2]
  ·rename_i x y t1 t2 hc1 hc2 hc3
   have ho := ho.trans (congrArg Op.call (call_eq hc1 hc2 hc3))
   split at hg
   rotate_left
   ·cases hg
   rename_i k m k' n hev1 hev2
   simp only [Option.some.injEq] at hg; subst hg
   have e1 := hx x (by simp [ho, Op.operands, Call.operands])
   have e2 := hx y (by simp [ho, Op.operands, Call.operands])
   rw [hev1] at e1; rw [hev2] at e2
   have e1 : a.eval x = .int k m := e1
   have e2 : a.eval y = .int k' n := e2
   refine .pure hH (v := .int k (if n < m then n else m)) ?_ rfl
   simp [execOp, ho, resolve, invoke, builtin, Builtin.min_, Builtin.min2, e1, e2]
  ·cases hg
 ·cases hg

def gOpX (T : Tbl) (o : Oper) (ev : Operand → G) (H : Heap) (es : List En) : Option (OR × List En) :=
 match o.op, es with
 | .slice t x lo hi mx, .one :: es' => (match ev x, gInt (lo.map ev), gInt (hi.map ev), gInt (mx.map ev) with
  | .r (.at g), some l, some h, some none => (match gSliceC T H t g l h with | some R => some (R, es') | none => none)
  | _, _, _, _ => none)
 | _, es => (match gOp T o ev H es with
  | some r => some r
  | none => (match gX T o ev H with | some R => some (R, es) | none => none))

theorem gOpX_ok (hT : TOK P T) {o : Oper} {ev : Operand → G} {H0 : Heap} {es es' : List En} {R : OR} (hg : gOpX T o ev H0 es = some (R, es')) (hc : AllP R.cs) (hrd : ∀ x ∈ R.rd, H x.1 = some x.2)
  (hx : ∀ x ∈ o.op.operands.toList, VG μ w (ownOf μ H) (ev x) (a.eval x)) (hH : HRel μ w H) : OpOK P o a μ w H R := by
 unfold gOpX at hg
 split at hg
 ·rename_i t x lo hi mx es1 ho
  split at hg
  ·rename_i g l h hev hl hh hm
   split at hg
   ·rename_i R' hs
    simp only [Option.some.injEq, Prod.mk.injEq] at hg; obtain ⟨rfl, rfl⟩ := hg
    have h1 := hx x (by simp [ho, Op.operands])
    rw [hev] at h1
    refine sliceC_ok hT ho hs hc hrd h1 (gInt_rel hl fun y hy => hx y ?_) (gInt_rel hh fun y hy => hx y ?_) (gInt_rel hm fun y hy => hx y ?_) hH
    all_goals (simp only [Option.mem_def] at hy; simp [ho, Op.operands, hy])
   ·cases hg
  ·cases hg
 ·split at hg
  ·rename_i r hr
   cases hg
   exact gOp_ok hT hr hc hrd hx hH
  ·split at hg
   ·rename_i R' hr
    cases hg
    exact gX_ok hT hr hc hrd hx hH
   ·cases hg

theorem gOpX_nd {o : Oper} {ev : Operand → G} {es : List En} {r : OR × List En} (hg : gOpX T o ev H es = some r) (c : Call) : o.op ≠ .defer c := by
 intro h
 unfold gOpX at hg
 split at hg
 ·rename_i ho; rw [h] at ho; cases ho
 ·simp [gOp, gX, h] at hg

end
end Go.Gh
