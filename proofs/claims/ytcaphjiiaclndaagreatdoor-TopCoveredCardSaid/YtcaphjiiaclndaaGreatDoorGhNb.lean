/- More operations: an index of a text, max, copy. -/
import Derived.Test.YtcaphjiiaclndaaGreatDoorGhN
import Derived.Test.YtcaphjiiaclndaaGreatDoorGhPl
namespace Go.Gh
set_option linter.unusedVariables false
set_option linter.unusedSimpArgs false

section
variable {P : Program} {T : Tbl} {o : Oper} {a : Act} {μ : Map} {w : World} {H : Heap}

def gCopy (T : Tbl) (H : Heap) (t : TypeId) (n off len : Nat) (y : GA) : Option OR :=
 match T[t]? with
 | some ti => (match ti.d with
  | .slice e => (match T[e]?, H n with
   | some ei, some (.gr τ e' xs mv) => if τ.size = 1 ∧ ei.size = 1 then (match listSrc H τ y with
    | some (ys, rd, cs) => some { val := .a (.int .i64 ((Nat.min (List.length ys) len : Nat) : Int)), rd := (n, .gr τ e' xs mv) :: rd, wr := [(n, some (.gr τ e' (List.take off xs ++ List.take (Nat.min (List.length ys) len) ys ++ List.drop (off + Nat.min (List.length ys) len) xs) true))], cs := cs ++ [off + len ≤ List.length xs] }
    | none => none) else none
   | _, _ => none)
  | _ => none)
 | none => none

theorem HRel.rewrite (hH : HRel μ w H) {n : Nat} {τ : Ty} {e : TypeId} {xs : List τ.den} {b : Bool} (b' : Bool) (hn : H n = some (.gr τ e xs b)) :
  HRel μ w (after [] [(n, some (.gr τ e xs b'))] H) ∧ Ev μ H w μ (after [] [(n, some (.gr τ e xs b'))] H) w := by
 have hd : ∀ m, after [] [(n, some (.gr τ e xs b'))] H m ≠ none → H m ≠ none := by
  intro m hm
  by_cases h : n = m
  ·subst h; rw [hn]; simp
  ·intro h0; apply hm; simp [after, h, h0]
 have ev : Ev μ H w μ (after [] [(n, some (.gr τ e xs b'))] H) w := Ev.drop hd
 refine ⟨hH.weaken hd fun m c' hc' c hc hbr => ?_, ev⟩
 by_cases h : n = m
 ·subst h
  rw [hn] at hc; cases hc
  simp [after] at hc'
  subst hc'
  exact BRel.ext (μ := μ) (b := .gr τ e xs b') ev.ext rfl (fun _ _ => rfl) (fun _ _ => rfl) hbr
 ·have e0 : after [] [(n, some (.gr τ e xs b'))] H m = H m := by
   have := congrFun (after_nil H) m
   simp only [after, List.find?_nil] at this
   simp [after, h, this]
  rw [e0, hc] at hc'; cases hc'
  exact BRel.ext (μ := μ) ev.ext rfl (fun _ _ => rfl) (fun _ _ => rfl) hbr

theorem copy_ok (hT : TOK P T) {t t2 : TypeId} {x y : Operand} (ho : o.op = .call { callee := .builtin .copy, args := #[x, y], argTypes := #[t, t2] }) {H0 : Heap} {n off len : Nat} {gy : GA} {R : OR} (hg : gCopy T H0 t n off len gy = some R) (hc : AllP R.cs)
  (hrd : ∀ x ∈ R.rd, H x.1 = some x.2) (hx : VG μ w (ownOf μ H) (.a (.sl n off len)) (a.eval x)) (hy : VG μ w (ownOf μ H) (.a gy) (a.eval y)) (hH : HRel μ w H) : OpOK P o a μ w H R := by
 have hx' : VA μ w (ownOf μ H) (.sl n off len) (a.eval x) := hx
 have hy' : VA μ w (ownOf μ H) gy (a.eval y) := hy
 have he : execOp a.eval o = (do Pure.pure (.value (← Builtin.copy_ #[t, t2] o.type #[a.eval x, a.eval y]))) := by simp [execOp, ho, resolve, invoke, builtin]
 unfold gCopy at hg
 split at hg
 rotate_left
 ·cases hg
 rename_i ti hti
 split at hg
 rotate_left
 ·cases hg
 rename_i e hd
 obtain ⟨D, _, hD, hf⟩ := (hT t ti hti).run_und w
 rw [hd] at hf; simp only [TD.fits] at hf; subst hf
 split at hg
 rotate_left
 ·cases hg
 rename_i ei τ e' xs mv hei hHn
 split at hg
 rotate_left
 ·cases hg
 rename_i hsz
 obtain ⟨hs1, hs2⟩ := hsz
 split at hg
 rotate_left
 ·cases hg
 rename_i ys rd cs hsrc
 simp only [Option.some.injEq] at hg; subst hg
 obtain ⟨hc1, hle, _⟩ := AllP.append hc
 have hn := hrd (n, .gr τ e' xs mv) (by simp)
 obtain ⟨b, c, hv, hne⟩ := listSrc_rel hsrc hc1 (fun z hz => hrd z (by simp [hz])) hH hy'
 have hes := (hT e ei hei).run_size w
 rw [hs2] at hes
 generalize hm : Nat.min (List.length ys) len = m at *
 have hm1 : m ≤ List.length ys := hm ▸ Nat.min_le_left _ _
 have hm2 : m ≤ len := hm ▸ Nat.min_le_right _ _
 by_cases hm0 : m = 0
 ·-- nothing is copied
  subst hm0
  have exs : List.take off xs ++ List.take 0 ys ++ List.drop (off + 0) xs = xs := by simp
  rw [exs]
  obtain ⟨g1, g2⟩ := hH.rewrite true hn
  have hrun : ∃ bx cx, a.eval x = .slice bx len cx := by
   rcases hx' with ⟨_, _, rfl, bx, h⟩ | ⟨l, of, _, _, h, _⟩
   ·exact ⟨_, _, h⟩
   ·exact ⟨_, _, h⟩
  obtain ⟨bx, cx, hxv⟩ := hrun
  have hf : (Builtin.firstCells 1 0 (.slice b (List.length ys) c)).run P w = .ok #[] w := by cases b <;> simp [Builtin.firstCells, loadCells, loadCellsFrom]
  refine ⟨.int .i64 0, w, μ, .inl ?_, fun _ _ => rfl, g1, g2, rfl⟩
  rw [he, hxv, hv]
  cases bx <;> simp [Builtin.copy_, run_underlying hD, hes, Builtin.lenOf, hm, hf, storeCells, goInt]
 ·have hye : ys ≠ [] := fun h => hm0 (by rw [h] at hm1; simpa using hm1)
  obtain ⟨ad, news, rfl, hs, hrep, hcell⟩ := hne hye
  obtain ⟨⟨hp, hok⟩, hb⟩ := hH.blk n _ hn
  rcases hx' with ⟨_, _, h0, _⟩ | ⟨l, of, hl, hcap, hxv, hof⟩
  ·omega
  rcases hb with ⟨h0, _⟩ | ⟨l', c', hl', hls, hb, hcs, hxl, hcm, hrx⟩
  ·rw [hl] at h0; cases h0
  rw [hl] at hl'; cases hl'
  have hof := hof (.inl (by omega))
  rw [hls, hs1, Nat.mul_one] at hof
  subst hof
  rw [hs1, Nat.mul_one] at hcs hrx
  have hnl : (news.take m).length = m := by
   have := hrep.length
   rw [hs1, Nat.mul_one] at this
   simp; omega
  have hlc := run_loadCells_list (P := P) w ad (news.take m) (fun j v hv => by
   rw [Addr.add_eq _ hs]
   refine hcell j v ?_
   rw [List.getElem?_take] at hv
   split at hv
   ·exact hv
   ·cases hv)
  rw [hnl] at hlc
  have hst := run_storeCells_at P l.blk (l.base + off) e' (news.take m) 0 c' w hb (by rw [hnl]; omega) (fun v hv => hrep.one v (List.mem_of_mem_take hv))
  rw [hnl] at hst
  simp only [Nat.add_zero] at hst
  obtain ⟨g1, g2⟩ := hH.write (.gr τ e' (List.take off xs ++ List.take m ys ++ List.drop (off + m) xs) true) hn hl hb (c'.toList.take (l.base + off) ++ news.take m ++ c'.toList.drop (l.base + off + m)).toArray (fun hext hb' => by
   refine ⟨⟨hp, hok⟩, .inr ⟨l, _, hl, hls, hb', ?_, ?_, hcm, ?_⟩⟩
   ·rw [hs1]; simp [hnl]; omega
   ·simp; omega
   ·have el : List.length (List.take off xs ++ List.take m ys ++ List.drop (off + m) xs) = List.length xs := by simp; omega
    rw [el, hs1, Nat.mul_one]
    simp only []
    rw [drop_put _ _ _ _ (by simp; omega), take_put (c'.toList.drop l.base) (List.length xs) off m (news.take m) hnl (by omega) (by simp; omega)]
    have r1 := ((hrx.sub off).1).ext hext hok
    have r2 := ((hrep.sub m).1).ext hext hok
    have r3 := ((hrx.sub (off + m)).2).ext hext hok
    rw [hs1, Nat.mul_one] at r1 r2 r3
    exact (r1.append r2).append r3)
  refine ⟨.int .i64 m, _, μ, .inl ?_, fun _ _ => rfl, g1, g2, rfl⟩
  rw [he, hxv, hv]
  simp [Builtin.copy_, run_underlying hD, hes, Builtin.lenOf, hm, Builtin.firstCells, hlc, hst, goInt]

def gClear (T : Tbl) (H : Heap) (t : TypeId) (n off len : Nat) : Option OR :=
 match T[t]? with
 | some ti => (match ti.d with
  | .slice e => (match T[e]?, H n with
   | some ei, some (.gr τ e' xs mv) => if τ.size = 1 ∧ ei.size = 1 ∧ ei.ty = some τ then some { val := .a .unit0, rd := [(n, .gr τ e' xs mv)], wr := [(n, some (.gr τ e' (List.take off xs ++ List.replicate len τ.dflt ++ List.drop (off + len) xs) true))], cs := [off + len ≤ List.length xs] } else none
   | _, _ => none)
  | _ => none)
 | none => none

theorem clear_ok (hT : TOK P T) {t : TypeId} {x : Operand} (ho : o.op = .call { callee := .builtin .clear, args := #[x], argTypes := #[t] }) {H0 : Heap} {n off len : Nat} {R : OR} (hg : gClear T H0 t n off len = some R) (hc : AllP R.cs)
  (hrd : ∀ x ∈ R.rd, H x.1 = some x.2) (hx : VG μ w (ownOf μ H) (.a (.sl n off len)) (a.eval x)) (hH : HRel μ w H) : OpOK P o a μ w H R := by
 have hx' : VA μ w (ownOf μ H) (.sl n off len) (a.eval x) := hx
 have he : execOp a.eval o = (do Pure.pure (.value (← Builtin.clear_ #[t] o.type #[a.eval x]))) := by simp [execOp, ho, resolve, invoke, builtin]
 unfold gClear at hg
 split at hg
 rotate_left
 ·cases hg
 rename_i ti hti
 split at hg
 rotate_left
 ·cases hg
 rename_i e hd
 obtain ⟨D, _, hD, hf⟩ := (hT t ti hti).run_und w
 rw [hd] at hf; simp only [TD.fits] at hf; subst hf
 split at hg
 rotate_left
 ·cases hg
 rename_i ei τ e' xs mv hei hHn
 split at hg
 rotate_left
 ·cases hg
 rename_i hsz
 obtain ⟨hs1, hs2, hty⟩ := hsz
 simp only [Option.some.injEq] at hg; subst hg
 obtain ⟨hle, _⟩ := hc
 have hn := hrd (n, .gr τ e' xs mv) (by simp)
 by_cases hm0 : len = 0
 ·subst hm0
  have exs : List.take off xs ++ List.replicate 0 τ.dflt ++ List.drop (off + 0) xs = xs := by simp
  rw [exs]
  obtain ⟨g1, g2⟩ := hH.rewrite true hn
  have hrun : ∃ bx cx, a.eval x = .slice bx 0 cx := by
   rcases hx' with ⟨_, _, _, bx, h⟩ | ⟨l, of, _, _, h, _⟩
   ·exact ⟨_, _, h⟩
   ·exact ⟨_, _, h⟩
  obtain ⟨bx, cx, hxv⟩ := hrun
  refine ⟨.tuple #[], w, μ, .inl ?_, fun _ _ => rfl, g1, g2, rfl⟩
  rw [he, hxv]
  cases bx <;> simp [Builtin.clear_, run_underlying hD]
 ·obtain ⟨j, z, zv, hi, _, _, hz, hzc, hrep⟩ := (hT e ei hei).zero_one hty hs1
  obtain ⟨⟨hp, hok⟩, hb⟩ := hH.blk n _ hn
  rcases hx' with ⟨_, _, h0, _⟩ | ⟨l, of, hl, hcap, hxv, hof⟩
  ·omega
  rcases hb with ⟨h0, _⟩ | ⟨l', c', hl', hls, hb, hcs, hxl, hcm, hrx⟩
  ·rw [hl] at h0; cases h0
  rw [hl] at hl'; cases hl'
  have hof := hof (.inl (by omega))
  rw [hls, hs1, Nat.mul_one] at hof
  subst hof
  rw [hs1, Nat.mul_one] at hcs hrx
  have hone : zv.oneCell' = true := (hrep w (ownOf μ H)).one zv (by simp)
  have hst := run_storeCells_at P l.blk (l.base + off) e' (List.replicate len zv) 0 c' w hb (by simp; omega) (fun v hv => by rw [(List.mem_replicate.1 hv).2]; exact hone)
  rw [List.length_replicate] at hst
  simp only [Nat.add_zero] at hst
  obtain ⟨g1, g2⟩ := hH.write (.gr τ e' (List.take off xs ++ List.replicate len τ.dflt ++ List.drop (off + len) xs) true) hn hl hb (c'.toList.take (l.base + off) ++ List.replicate len zv ++ c'.toList.drop (l.base + off + len)).toArray (fun hext hb' => by
   refine ⟨⟨hp, hok⟩, .inr ⟨l, _, hl, hls, hb', ?_, ?_, hcm, ?_⟩⟩
   ·rw [hs1]; simp; omega
   ·simp; omega
   ·have el : List.length (List.take off xs ++ List.replicate len τ.dflt ++ List.drop (off + len) xs) = List.length xs := by simp; omega
    rw [el, hs1, Nat.mul_one]
    simp only []
    rw [drop_put _ _ _ _ (by simp; omega), take_put (c'.toList.drop l.base) (List.length xs) off len (List.replicate len zv) (by simp) (by omega) (by simp; omega)]
    have r1 := ((hrx.sub off).1).ext hext hok
    have r2 := fun (w0 : World) (o0 : Nat → Prop) => RepAll.replicate (hrep w0 o0) len
    have r3 := ((hrx.sub (off + len)).2).ext hext hok
    rw [hs1, Nat.mul_one] at r1 r3
    exact (r1.append (r2 _ _)).append r3)
  refine ⟨.tuple #[], _, μ, .inl ?_, fun _ _ => rfl, g1, g2, rfl⟩
  rw [he, hxv]
  have hzl : (Builtin.zeroCells z.cells len).toList = List.replicate len zv := by
   rw [hzc]; simp only [Builtin.zeroCells]
   apply List.ext_getElem (by simp)
   intro i h1 h2
   simp [Nat.mod_one]
  have hlen : ∃ m, len = m + 1 := ⟨len - 1, by omega⟩
  obtain ⟨m, rfl⟩ := hlen
  have hzr : (zeroValue e).run P w = .ok z w := by simp [zeroValue, typeInfo, hi, hz]
  simp [Builtin.clear_, run_underlying hD, hzr, hzl, hst]

def gSliceC (T : Tbl) (H : Heap) (t : TypeId) (x : GA) (lo hi : Option Int) : Option OR :=
 match x with
 | .sl n 0 len => (match T[t]? with
  | some ti => (match ti.d with
   | .slice e => (match T[e]?, H n with
    | some ei, some (.gr τ e' xs mv) => if τ.size = ei.size then
     some { val := .a (.sl n 0 (List.length (List.drop (lo.getD 0).toNat (List.take (hi.getD len).toNat xs)))), rd := [(n, .gr τ e' xs mv)], wr := [(n, some (.gr τ e' (List.drop (lo.getD 0).toNat (List.take (hi.getD len).toNat xs)) true))], mv := [n], cs := [0 ≤ lo.getD 0 ∧ lo.getD 0 ≤ hi.getD len ∧ hi.getD len ≤ (len : Int) ∧ 0 < len, len ≤ List.length xs, lo.getD 0 < hi.getD len ∨ lo.getD 0 = 0] } else none
    | _, _ => none)
   | _ => none)
  | none => none)
 | _ => none

theorem sliceC_ok (hT : TOK P T) {t : TypeId} {x : Operand} {ol oh om : Option Operand} (ho : o.op = .slice t x ol oh om) {H0 : Heap} {gx : GA} {lo hi : Option Int} {R : OR} (hg : gSliceC T H0 t gx lo hi = some R) (hc : AllP R.cs)
  (hrd : ∀ x ∈ R.rd, H x.1 = some x.2) (hx : VG μ w (ownOf μ H) (.a gx) (a.eval x)) (hl : BV lo (ol.map a.eval)) (hh : BV hi (oh.map a.eval)) (hm : BV none (om.map a.eval)) (hH : HRel μ w H) : OpOK P o a μ w H R := by
 unfold gSliceC at hg
 split at hg
 rotate_left
 ·cases hg
 rename_i n len
 split at hg
 rotate_left
 ·cases hg
 rename_i ti hti
 split at hg
 rotate_left
 ·cases hg
 rename_i e hd
 split at hg
 rotate_left
 ·cases hg
 rename_i ei τ e' xs mv hei hHn
 split at hg
 rotate_left
 ·cases hg
 rename_i hsz
 simp only [Option.some.injEq] at hg; subst hg
 obtain ⟨⟨h0, h1, h2, h3⟩, h4, h5, _⟩ := hc
 have hx' : VA μ w (ownOf μ H) (.sl n 0 len) (a.eval x) := hx
 have hn := hrd (n, .gr τ e' xs mv) (by simp)
 obtain ⟨⟨hp, hok⟩, hb⟩ := hH.blk n _ hn
 have hmn : om.map a.eval = none := by cases hq : om.map a.eval with | none => rfl | some _ => rw [hq] at hm; exact hm.elim
 rcases hx' with ⟨_, _, h6, _⟩ | ⟨l, of, hl', hcap, hv, hof⟩
 ·omega
 rcases hb with ⟨h6, _⟩ | ⟨l', c, hl'', hls, hb, hcs, hxl, hcm, hrep⟩
 ·rw [hl'] at h6; cases h6
 rw [hl'] at hl''; cases hl''
 have hof := hof (.inr rfl)
 rw [Nat.zero_mul, Nat.add_zero] at hof
 subst hof
 rw [Nat.sub_zero] at hv
 have hb2 := run_sliceBounds (P := P) (w := w) true len l.cap hl hh h0 h1 (by omega)
 generalize hlo : (lo.getD 0).toNat = p at *
 generalize hhi : (hi.getD (len : Int)).toNat = q at *
 have hpq : p ≤ q := by omega
 have hql : q ≤ len := by omega
 have hpc : p < l.cap := by omega
 have hqx : q ≤ List.length xs := by omega
 let l1 : Loc := ⟨l.blk, l.cap - p, l.size, l.base + p * τ.size⟩
 have hpm : p * τ.size ≤ l.cap * τ.size := Nat.mul_le_mul_right _ (by omega)
 have hlen : List.length (List.drop p (List.take q xs)) = q - p := by simp; omega
 rw [hlen]
 have key := hH.step (n := n) (b := .gr τ e' (List.drop p (List.take q xs)) true) (mv := [n]) (μ' := upd μ n (some l1)) (w' := w) rfl (fun m hm => upd_other _ _ _ (by simpa using hm)) (fun m hm => upd_other _ _ _ hm) (by simp) (Nat.le_refl _) rfl rfl rfl (fun _ _ _ => rfl)
  (fun l2 hl2 => by rw [upd_same] at hl2; cases hl2; exact .inr ⟨by simp [hn], l, hl', rfl⟩) (fun hext => ?_)
 ·refine ⟨.slice (some ⟨l.blk, l.base + p * τ.size, none⟩) (q - p) (l.cap - p), w, upd μ n (some l1), .inl ?_, fun m hm => upd_other _ _ _ (by simpa using hm), key.1, key.2, .inr ⟨l1, l1.base, upd_same .., ?_, ?_, ?_⟩⟩
  ·have he : execOp a.eval o = (do Pure.pure (.value (← Instr.sliceAt t (a.eval x) (ol.map a.eval) (oh.map a.eval) (om.map a.eval)))) := by simp [execOp, ho]
   rw [he, hv, hmn]
   simp only [Sem.run_bind, run_slice (hT t ti hti) hd (hT e ei hei) _ len _ hb2, Result.andThen_ok, Sem.run_pure]
   rw [if_neg (by omega), Option.map_some, Addr.add_eq _ rfl, hsz]
  ·show 0 + (q - p) ≤ l.cap - p
   omega
  ·show Value.slice _ _ _ = Value.slice _ _ (l.cap - p - 0)
   rw [Nat.sub_zero]
  ·intro _; simp
 ·refine ⟨⟨hp, hok⟩, .inr ⟨l1, c, upd_same .., hls, hb, ?_, ?_, ?_, ?_⟩⟩
  ·show l.base + p * τ.size + (l.cap - p) * τ.size ≤ c.size
   rw [Nat.sub_mul]; omega
  ·rw [hlen]; show q - p ≤ l.cap - p; omega
  ·show l.cap - p ≤ maxLen; omega
  ·rw [hlen]
   have r1 := ((hrep.sub q).1.sub p).2.ext hext hok
   have e1 : List.drop (p * τ.size) (List.take (q * τ.size) (List.take (List.length xs * τ.size) (List.drop l.base c.toList))) = List.take ((q - p) * τ.size) (List.drop (l.base + p * τ.size) c.toList) := by
    rw [List.take_take, Nat.min_eq_left (Nat.mul_le_mul_right _ hqx), List.drop_take, List.drop_drop, Nat.sub_mul]
   rw [e1] at r1
   exact r1

def gSliceK (T : Tbl) (H : Heap) (t : TypeId) (x : GA) (hi mx : Int) : Option OR :=
 match x with
 | .sl n 0 len => (match T[t]? with
  | some ti => (match ti.d with
   | .slice e => (match T[e]?, H n with
    | some ei, some (.gr τ e' xs mv) => if τ.size = ei.size then
     some { val := .a (.sl n 0 (List.length (List.take hi.toNat xs))), rd := [(n, .gr τ e' xs mv)], wr := [(n, some (.gr τ e' (List.take hi.toNat xs) true))], mv := [n], cs := [0 ≤ hi ∧ hi ≤ (len : Int) ∧ 0 < len, len ≤ List.length xs, mx = hi] } else none
    | _, _ => none)
   | _ => none)
  | none => none)
 | _ => none

theorem sliceK_ok (hT : TOK P T) {t : TypeId} {x : Operand} {oh om : Option Operand} (ho : o.op = .slice t x none oh om) {H0 : Heap} {gx : GA} {hi mx : Int} {R : OR} (hg : gSliceK T H0 t gx hi mx = some R) (hc : AllP R.cs)
  (hrd : ∀ x ∈ R.rd, H x.1 = some x.2) (hx : VG μ w (ownOf μ H) (.a gx) (a.eval x)) (hh : BV (some hi) (oh.map a.eval)) (hm : BV (some mx) (om.map a.eval)) (hH : HRel μ w H) : OpOK P o a μ w H R := by
 unfold gSliceK at hg
 split at hg
 rotate_left
 ·cases hg
 rename_i n len
 split at hg
 rotate_left
 ·cases hg
 rename_i ti hti
 split at hg
 rotate_left
 ·cases hg
 rename_i e hd
 split at hg
 rotate_left
 ·cases hg
 rename_i ei τ e' xs mv hei hHn
 split at hg
 rotate_left
 ·cases hg
 rename_i hsz
 simp only [Option.some.injEq] at hg; subst hg
 obtain ⟨⟨h0, h2, h3⟩, h4, h5, _⟩ := hc
 subst h5
 have hx' : VA μ w (ownOf μ H) (.sl n 0 len) (a.eval x) := hx
 have hn := hrd (n, .gr τ e' xs mv) (by simp)
 obtain ⟨⟨hp, hok⟩, hb⟩ := hH.blk n _ hn
 have hmm : ∃ km, om.map a.eval = some (.int km mx) := by cases hq : om.map a.eval with | none => rw [hq] at hm; exact hm.elim | some _ => rw [hq] at hm; obtain ⟨k, rfl⟩ := hm; exact ⟨k, rfl⟩
 have hhh : ∃ kh, oh.map a.eval = some (.int kh mx) := by cases hq : oh.map a.eval with | none => rw [hq] at hh; exact hh.elim | some _ => rw [hq] at hh; obtain ⟨k, rfl⟩ := hh; exact ⟨k, rfl⟩
 obtain ⟨km, hmm⟩ := hmm
 obtain ⟨kh, hhh⟩ := hhh
 rcases hx' with ⟨_, _, h6, _⟩ | ⟨l, of, hl', hcap, hv, hof⟩
 ·omega
 rcases hb with ⟨h6, _⟩ | ⟨l', c, hl'', hls, hb, hcs, hxl, hcm, hrep⟩
 ·rw [hl'] at h6; cases h6
 rw [hl'] at hl''; cases hl''
 have hof := hof (.inr rfl)
 rw [Nat.zero_mul, Nat.add_zero] at hof
 subst hof
 rw [Nat.sub_zero] at hv
 have hb2 := run_sliceBounds3 (P := P) (w := w) true len l.cap (lo := none) (vl := none) (kh := kh) (km := km) trivial (Int.le_refl 0) h0 (Int.le_refl mx) (by omega)
 generalize hhi : mx.toNat = q at *
 have hql : q ≤ len := by omega
 have hqx : q ≤ List.length xs := by omega
 let l1 : Loc := ⟨l.blk, q, l.size, l.base⟩
 have hlen : List.length (List.take q xs) = q := by simp; omega
 rw [hlen]
 have key := hH.step (n := n) (b := .gr τ e' (List.take q xs) true) (mv := [n]) (μ' := upd μ n (some l1)) (w' := w) rfl (fun m hm => upd_other _ _ _ (by simpa using hm)) (fun m hm => upd_other _ _ _ hm) (by simp) (Nat.le_refl _) rfl rfl rfl (fun _ _ _ => rfl)
  (fun l2 hl2 => by rw [upd_same] at hl2; cases hl2; exact .inr ⟨by simp [hn], l, hl', rfl⟩) (fun hext => ?_)
 ·refine ⟨.slice (some ⟨l.blk, l.base, none⟩) q q, w, upd μ n (some l1), .inl ?_, fun m hm => upd_other _ _ _ (by simpa using hm), key.1, key.2, .inr ⟨l1, l1.base, upd_same .., ?_, ?_, ?_⟩⟩
  ·have he : execOp a.eval o = (do Pure.pure (.value (← Instr.sliceAt t (a.eval x) none (oh.map a.eval) (om.map a.eval)))) := by simp [execOp, ho]
   rw [he, hv, hmm, hhh]
   simp only [Sem.run_bind, run_slice (hT t ti hti) hd (hT e ei hei) _ len _ hb2, Result.andThen_ok, Sem.run_pure]
   by_cases hq : q = 0
   ·simp [hq]
   ·rw [if_neg (by simpa using hq), Option.map_some, Addr.add_eq _ rfl]; simp
  ·show 0 + q ≤ q
   omega
  ·show Value.slice _ _ _ = Value.slice _ _ (q - 0)
   rw [Nat.sub_zero]
  ·intro _; simp
 ·refine ⟨⟨hp, hok⟩, .inr ⟨l1, c, upd_same .., hls, hb, ?_, ?_, ?_, ?_⟩⟩
  ·show l.base + q * τ.size ≤ c.size
   exact Nat.le_trans (Nat.add_le_add_left (Nat.mul_le_mul_right _ (by omega)) _) hcs
  ·rw [hlen]; exact Nat.le_refl _
  ·show q ≤ maxLen; omega
  ·rw [hlen]
   have r1 := (hrep.sub q).1.ext hext hok
   rw [List.take_take, Nat.min_eq_left (Nat.mul_le_mul_right _ hqx)] at r1
   exact r1

def gX (T : Tbl) (o : Oper) (ev : Operand → G) (H : Heap) : Option OR :=
 match o.op with
 | .index t x i => (match T[t]?, ev x, ev i with
  | some ti, .r (.at (.str s)), .r (.at (.int _ n)) => (match ti.d with
   | .str => some { val := .a (.int .u8 (strAt s n)), cs := [0 ≤ n ∧ n < (ByteArray.size s : Int)] }
   | _ => none)
  | some ti, .r (.agg [.arr τ m xs]), .r (.at (.int _ n)) => (match ti.d with
   | .array len e => (match T[e]? with
    | some ei => if ei.d.isAgg = false ∧ τ.isAgg = false ∧ τ.size = 1 ∧ ei.size = 1 ∧ len = m then some { val := .a (ofDenA τ ((xs[n.toNat]?).getD τ.dflt)), cs := [0 ≤ n ∧ n < (m : Int)] } else none
    | none => none)
   | _ => none)
  | _, _, _ => none)
 | .call c => (match c.callee, c.args.toList, c.argTypes.toList with
  | .builtin .max, [x, y], [_, _] => (match ev x, ev y with
   | .r (.at (.int k m)), .r (.at (.int _ n)) => some { val := .a (.int k (if n > m then n else m)) }
   | _, _ => none)
  | .builtin .min, [x, y], [_, _] => (match ev x, ev y with
   | .r (.at (.int k m)), .r (.at (.int _ n)) => some { val := .a (.int k (if n < m then n else m)) }
   | _, _ => none)
  | .builtin .copy, [x, y], [t, _] => (match ev x, ev y with
   | .r (.at (.sl n off len)), .r (.at gy) => gCopy T H t n off len gy
   | _, _ => none)
  | .builtin .clear, [x], [t] => (match ev x with
   | .r (.at (.sl n off len)) => gClear T H t n off len
   | _ => none)
  | _, _, _ => none)
 | _ => none

theorem gX_ok (hT : TOK P T) {o : Oper} {ev : Operand → G} {H0 : Heap} {R : OR} (hg : gX T o ev H0 = some R) (hc : AllP R.cs) (hrd : ∀ x ∈ R.rd, H x.1 = some x.2)
  (hx : ∀ x ∈ o.op.operands.toList, VG μ w (ownOf μ H) (ev x) (a.eval x)) (hH : HRel μ w H) : OpOK P o a μ w H R := by
 unfold gX at hg
 split at hg
 ·rename_i t x i ho
  split at hg
  rotate_left
  ·rename_i ti τ m xs k n hti hev1 hev2
   split at hg
   rotate_left
   ·cases hg
   rename_i len e hd
   split at hg
   rotate_left
   ·cases hg
   rename_i ei hei
   split at hg
   rotate_left
   ·cases hg
   rename_i hcond
   obtain ⟨hag, hta, hts, hes, rfl⟩ := hcond
   simp only [Option.some.injEq] at hg; subst hg
   obtain ⟨⟨h0, h1⟩, _⟩ := hc
   have e1 := hx x (by simp [ho, Op.operands])
   have e2 := hx i (by simp [ho, Op.operands])
   rw [hev1] at e1; rw [hev2] at e2
   have e2 : a.eval i = .int k n := e2
   obtain ⟨cs, hcs, hvs⟩ := e1
   obtain ⟨hok, hl, c1, cs', hcc, hrep, hnil⟩ := hvs
   simp only [VS] at hnil; subst hnil
   rw [List.append_nil] at hcc
   obtain ⟨D, hr, hD, hf⟩ := (hT t ti hti).run_und w
   rw [hd] at hf; simp only [TD.fits] at hf; subst hf
   have hlt : n.toNat < xs.length := by omega
   have hget : xs[n.toNat]? = some xs[n.toNat] := List.getElem?_eq_getElem hlt
   obtain ⟨vs, hvl, hrv, hcell⟩ := hrep.get n.toNat _ hget
   rw [hts] at hvl hcell
   obtain ⟨u, rfl⟩ := List.length_eq_one_iff.1 hvl
   have hc0 := hcell 0 u (by simp)
   rw [Nat.mul_one, Nat.add_zero] at hc0
   have hc0' : cs[n.toNat]? = some u := by rw [← Array.getElem?_toList, hcc]; exact hc0
   refine .val hH (x := Instr.index t (a.eval x) (a.eval i)) (by simp [execOp, ho]) (v := u) ?_ ?_
   ·simp [Instr.index, asIntOf, e2, hcs, hr, h0, h1, (hT e ei hei).run_size w, hes, part, (hT e ei hei).run_isAgg w, hag, hc0']
   ·rw [hget, Option.getD_some]
    exact ofDenA_rel hok hta hrv
  ·cases hg
  rename_i ti s k n hti hev1 hev2
  split at hg
  rotate_left
  ·cases hg
  rename_i hd
  simp only [Option.some.injEq] at hg; subst hg
  obtain ⟨⟨h0, h1⟩, _⟩ := hc
  have e1 := hx x (by simp [ho, Op.operands])
  have e2 := hx i (by simp [ho, Op.operands])
  rw [hev1] at e1; rw [hev2] at e2
  have e1 : a.eval x = .string s := e1
  have e2 : a.eval i = .int k n := e2
  obtain ⟨D, hr, hD, hf⟩ := (hT t ti hti).run_und w
  rw [hd] at hf; simp only [TD.fits] at hf; subst hf
  have hlt : n.toNat < s.size := by omega
  refine .pure hH (v := .int .u8 (strAt s n)) ?_ rfl
  have hget : s[n.toNat]? = some s[n.toNat] := by simp [hlt]
  have hval : strAt s n = ((s[n.toNat]).toNat : Int) := by
   unfold strAt
   have : s.data[n.toNat]? = some s[n.toNat] := by
    rw [Array.getElem?_eq_getElem (by simpa using hlt)]; rfl
   rw [this]; rfl
  simp [execOp, ho, Instr.index, asIntOf, e1, e2, hr, h0, hget, hval]
 ·rename_i c ho
  split at hg
  ·rename_i x y t1 t2 hc1 hc2 hc3
   have ho := ho.trans (congrArg Op.call (call_eq hc1 hc2 hc3))
   split at hg
   rotate_left
   ·cases hg
   rename_i k m k' n hev1 hev2
   simp only [Option.some.injEq] at hg; subst hg
   have e1 := hx x (by simp [ho, Op.operands, Call.operands])
   have e2 := hx y (by simp [ho, Op.operands, Call.operands])
   rw [hev1] at e1; rw [hev2] at e2
   have e1 : a.eval x = .int k m := e1
   have e2 : a.eval y = .int k' n := e2
   refine .pure hH (v := .int k (if n > m then n else m)) ?_ rfl
   simp [execOp, ho, resolve, invoke, builtin, Builtin.max_, Builtin.max2, e1, e2]
  ·rename_i x y t1 t2 hc1 hc2 hc3
   have ho := ho.trans (congrArg Op.call (call_eq hc1 hc2 hc3))
   split at hg
   rotate_left
   ·cases hg
   rename_i k m k' n hev1 hev2
   simp only [Option.some.injEq] at hg; subst hg
   have e1 := hx x (by simp [ho, Op.operands, Call.operands])
   have e2 := hx y (by simp [ho, Op.operands, Call.operands])
   rw [hev1] at e1; rw [hev2] at e2
   have e1 : a.eval x = .int k m := e1
   have e2 : a.eval y = .int k' n := e2
   refine .pure hH (v := .int k (if n < m then n else m)) ?_ rfl
   simp [execOp, ho, resolve, invoke, builtin, Builtin.min_, Builtin.min2, e1, e2]
  ·rename_i x y t1 t2 hc1 hc2 hc3
   have ho := ho.trans (congrArg Op.call (call_eq hc1 hc2 hc3))
   split at hg
   rotate_left
   ·cases hg
   rename_i n off len gy hev1 hev2
   have e1 := hx x (by simp [ho, Op.operands, Call.operands])
   have e2 := hx y (by simp [ho, Op.operands, Call.operands])
   rw [hev1] at e1; rw [hev2] at e2
   exact copy_ok hT ho hg hc hrd e1 e2 hH
  ·rename_i x t1 hc1 hc2 hc3
   have ho := ho.trans (congrArg Op.call (call_eq hc1 hc2 hc3))
   split at hg
   rotate_left
   ·cases hg
   rename_i n off len hev1
   have e1 := hx x (by simp [ho, Op.operands, Call.operands])
   rw [hev1] at e1
   exact clear_ok hT ho hg hc hrd e1 hH
  ·cases hg
 ·cases hg

def gSliceB (T : Tbl) (H : Heap) (t : TypeId) (x : GA) (lo hi : Option Int) : Option OR :=
 match x with
 | .sl n off len => (match T[t]? with
  | some ti => (match ti.d with
   | .slice e => (match T[e]?, H n with
    | some ei, some (.gr τ e' xs mv) => if ei.size = τ.size then
     some { val := .a (.sl n (off + (lo.getD 0).toNat) ((hi.getD len).toNat - (lo.getD 0).toNat)), rd := [(n, .gr τ e' xs mv)], cs := [0 ≤ lo.getD 0 ∧ lo.getD 0 ≤ hi.getD len ∧ (off : Int) + hi.getD len ≤ (List.length xs : Int) ∧ 0 < List.length xs] } else none
    | _, _ => none)
   | _ => none)
  | none => none)
 | _ => none
theorem sliceB_ok (hT : TOK P T) {t : TypeId} {x : Operand} {ol oh om : Option Operand} (ho : o.op = .slice t x ol oh om) {H0 : Heap} {gx : GA} {lo hi : Option Int} {R : OR} (hg : gSliceB T H0 t gx lo hi = some R) (hc : AllP R.cs)
  (hrd : ∀ x ∈ R.rd, H x.1 = some x.2) (hx : VG μ w (ownOf μ H) (.a gx) (a.eval x)) (hl : BV lo (ol.map a.eval)) (hh : BV hi (oh.map a.eval)) (hm : BV none (om.map a.eval)) (hH : HRel μ w H) : OpOK P o a μ w H R := by
 have hx' : VA μ w (ownOf μ H) gx (a.eval x) := hx
 have he : execOp a.eval o = (do Pure.pure (.value (← Instr.sliceAt t (a.eval x) (ol.map a.eval) (oh.map a.eval) (om.map a.eval)))) := by simp [execOp, ho]
 unfold gSliceB at hg
 split at hg
 rotate_left
 ·cases hg
 rename_i n off len
 split at hg
 rotate_left
 ·cases hg
 rename_i ti hti
 split at hg
 rotate_left
 ·cases hg
 rename_i e hd
 split at hg
 rotate_left
 ·cases hg
 rename_i ei τ e' xs mv hei hHn
 split at hg
 rotate_left
 ·cases hg
 rename_i hsz
 simp only [Option.some.injEq] at hg; subst hg
 obtain ⟨⟨h0, h1, h2, h3⟩, _⟩ := hc
 have hb := hH.blk n _ (hrd (n, .gr τ e' xs mv) (by simp))
 have hmn : om.map a.eval = none := by cases hq : om.map a.eval with | none => rfl | some _ => rw [hq] at hm; exact hm.elim
 rcases hx' with ⟨h6, _⟩ | ⟨l, of, hl', hcap, hv, hof⟩
 ·rcases hb.2 with ⟨_, h5⟩ | ⟨l', c, hl'', _⟩
  ·subst h5; simp at h3
  ·rw [h6] at hl''; cases hl''
 rcases hb.2 with ⟨h5, _⟩ | ⟨l', c, hl'', hls, _, _, hxl, _⟩
 ·rw [hl'] at h5; cases h5
 rw [hl'] at hl''; cases hl''
 have hb2 := run_sliceBounds (P := P) (w := w) true len (l.cap - off) hl hh h0 h1 (by omega)
 refine ⟨_, w, μ, .inl (by rw [he, hv, hmn]; simp [run_slice (hT t ti hti) hd (hT e ei hei) _ len _ hb2]; rfl), fun _ _ => rfl, ?_⟩
 rw [after_nil]
 refine ⟨hH, .refl, .inr ⟨l, (if l.cap - off = (lo.getD 0).toNat then of else of + (lo.getD 0).toNat * ei.size), hl', by omega, ?_, ?_⟩⟩
 ·by_cases hq : l.cap - off = (lo.getD 0).toNat
  ·simp only [hq, if_true]; congr 1; omega
  ·simp only [hq, if_false, Option.map_some]
   rw [Addr.add_eq _ rfl]
   congr 1; omega
 ·intro hlt
  rcases hlt with hlt | hlt
  ·rw [if_neg (by omega), hof (.inl (by omega)), hsz, hls, Nat.add_mul, Nat.add_assoc]
  ·have e1 : off = 0 := by omega
   have e2 : (lo.getD 0).toNat = 0 := by omega
   rw [hof (.inr e1), e1, e2]
   simp

def gAppendI (T : Tbl) (H : Heap) (t t2 : TypeId) (n off i : Nat) (y : GA) : Option OR :=
 if t2 ≠ t then none else
 match T[t]? with
 | some ti => (match ti.d with
  | .slice e => (match T[e]?, H n with
   | some ei, some (.gr τ e' xs mv) => if τ.size = 1 ∧ ei.size = 1 ∧ e' = e then (match listSrc H τ y with
    | some (ys, rd, cs) => some { val := .a (.sl n off (i + List.length ys)), rd := (n, .gr τ e' xs mv) :: rd, wr := [(n, some (.gr τ e' (List.take (off + i) xs ++ ys ++ List.drop (off + i + List.length ys) xs) true))], cs := cs ++ [off + i + List.length ys ≤ List.length xs] }
    | none => none) else none
   | _, _ => none)
  | _ => none)
 | none => none
theorem appendI_ok (hT : TOK P T) {t t2 : TypeId} {x y : Operand} (ho : o.op = .call { callee := .builtin .append, args := #[x, y], argTypes := #[t, t2] }) {H0 : Heap} {n off len : Nat} {gy : GA} {R : OR} (hg : gAppendI T H0 t t2 n off len gy = some R) (hc : AllP R.cs)
  (hrd : ∀ x ∈ R.rd, H x.1 = some x.2) (hx : VG μ w (ownOf μ H) (.a (.sl n off len)) (a.eval x)) (hy : VG μ w (ownOf μ H) (.a gy) (a.eval y)) (hH : HRel μ w H) : OpOK P o a μ w H R := by
 have hx' : VA μ w (ownOf μ H) (.sl n off len) (a.eval x) := hx
 have hy' : VA μ w (ownOf μ H) gy (a.eval y) := hy
 unfold gAppendI at hg
 split at hg
 ·cases hg
 rename_i htt
 have htt : t2 = t := by simpa using htt
 subst htt
 have he : execOp a.eval o = (do Pure.pure (.value (← Builtin.append_ #[t2, t2] o.type #[a.eval x, a.eval y]))) := by simp [execOp, ho, resolve, invoke, builtin]
 split at hg
 rotate_left
 ·cases hg
 rename_i ti hti
 split at hg
 rotate_left
 ·cases hg
 rename_i e hd
 obtain ⟨D, _, hD, hf⟩ := (hT t2 ti hti).run_und w
 rw [hd] at hf; simp only [TD.fits] at hf; subst hf
 split at hg
 rotate_left
 ·cases hg
 rename_i ei τ e' xs mv hei hHn
 split at hg
 rotate_left
 ·cases hg
 rename_i hsz
 obtain ⟨hs1, hs2, rfl⟩ := hsz
 split at hg
 rotate_left
 ·cases hg
 rename_i ys rd cs hsrc
 simp only [Option.some.injEq] at hg; subst hg
 obtain ⟨hc1, hle, _⟩ := AllP.append hc
 have hn := hrd (n, .gr τ e' xs mv) (by simp)
 obtain ⟨b, c, hv, hne⟩ := listSrc_rel hsrc hc1 (fun z hz => hrd z (by simp [hz])) hH hy'
 have hE := hT e' ei hei
 obtain ⟨j, z, hi, hjs, _⟩ := hE.info
 by_cases hye : ys = []
 ·-- nothing is appended
  subst hye
  have exs : List.take (off + len) xs ++ [] ++ List.drop (off + len + List.length ([] : List τ.den)) xs = xs := by simp
  rw [exs]
  obtain ⟨g1, g2⟩ := hH.rewrite true hn
  rcases hx' with ⟨h1, h2, h3, bx, h⟩ | ⟨l, of, h1, h2, h, h4⟩
  ·subst h2; subst h3
   refine ⟨.slice bx 0 0, w, μ, .inl ?_, fun _ _ => rfl, g1, g2, .inl ⟨h1, rfl, rfl, bx, rfl⟩⟩
   rw [he, h, hv]
   have := run_append_none (P := P) (w := w) (ty := o.type) hD hE bx 0 0 (Nat.le_refl _) b c
   simp only [List.length_nil] at this ⊢
   simp [this]
  ·refine ⟨.slice (some ⟨l.blk, of, none⟩) len (l.cap - off), w, μ, .inl ?_, fun _ _ => rfl, g1, g2, .inr ⟨l, of, h1, by simpa using h2, by simp, h4⟩⟩
   rw [he, h, hv]
   have := run_append_none (P := P) (w := w) (ty := o.type) hD hE (some ⟨l.blk, of, none⟩) len (l.cap - off) (by omega) b c
   simp only [List.length_nil] at this ⊢
   simp [this]
 ·obtain ⟨ad, news, rfl, hs, hrep, hcell⟩ := hne hye
  have hy0 : 0 < ys.length := List.length_pos_iff.2 hye
  obtain ⟨⟨hp, hok⟩, hb⟩ := hH.blk n _ hn
  rcases hx' with ⟨h00, _⟩ | ⟨l, of, hl, hcap, hxv, hof⟩
  ·rcases hb with ⟨h0, h0x⟩ | ⟨l', c', hl', _⟩
   ·subst h0x
    simp only [List.length_nil] at hle
    omega
   ·rw [h00] at hl'; cases hl'
  rcases hb with ⟨h0, _⟩ | ⟨l', c', hl', hls, hb, hcs, hxl, hcm, hrx⟩
  ·rw [hl] at h0; cases h0
  rw [hl] at hl'; cases hl'
  have hof := hof (.inl (by omega))
  rw [hls, hs1, Nat.mul_one] at hof
  subst hof
  rw [hs1, Nat.mul_one] at hcs hrx
  have hnl : news.length = ys.length := by
   have := hrep.length
   rwa [hs1, Nat.mul_one] at this
  have hjs1 : j.size = 1 := by rw [hjs, hs2]
  have hr := run_append_room_at (P := P) (w := w) t2 o.type e' j hD hi l.blk (l.base + off) len (l.cap - off) c' hb ad ys.length c news (by rw [hjs1, Nat.mul_one]; exact hnl) (fun q u hu => by
   rw [Addr.add_eq _ hs]
   exact hcell q u hu) hrep.one (by omega) (by rw [hjs1, Nat.mul_one, hnl]; omega)
  rw [hjs1, Nat.mul_one, hnl] at hr
  have esum : l.base + off + len = l.base + (off + len) := by omega
  rw [esum] at hr
  obtain ⟨g1, g2⟩ := hH.write (.gr τ e' (List.take (off + len) xs ++ ys ++ List.drop (off + len + List.length ys) xs) true) hn hl hb (c'.toList.take (l.base + (off + len)) ++ news ++ c'.toList.drop (l.base + (off + len) + ys.length)).toArray (fun hext hb' => by
   refine ⟨⟨hp, hok⟩, .inr ⟨l, _, hl, hls, hb', ?_, ?_, hcm, ?_⟩⟩
   ·rw [hs1]; simp [hnl]; omega
   ·simp; omega
   ·have el : List.length (List.take (off + len) xs ++ ys ++ List.drop (off + len + List.length ys) xs) = List.length xs := by simp; omega
    rw [el, hs1, Nat.mul_one]
    simp only []
    rw [drop_put _ _ _ _ (by simp; omega), take_put (c'.toList.drop l.base) (List.length xs) (off + len) ys.length news hnl (by omega) (by simp; omega)]
    have r1 := ((hrx.sub (off + len)).1).ext hext hok
    have r2 := hrep.ext hext hok
    have r3 := ((hrx.sub (off + len + ys.length)).2).ext hext hok
    rw [hs1, Nat.mul_one] at r1 r3
    exact (r1.append r2).append r3)
  refine ⟨.slice (some ⟨l.blk, l.base + off, none⟩) (len + ys.length) (l.cap - off), _, μ, .inl ?_, fun _ _ => rfl, g1, g2, .inr ⟨l, l.base + off, hl, by omega, rfl, fun _ => by rw [hls, hs1, Nat.mul_one]⟩⟩
  rw [he, hxv, hv]
  simp [hr]

def gOpX (T : Tbl) (o : Oper) (ev : Operand → G) (H : Heap) (es : List En) : Option (OR × List En) :=
 match o.op, es with
 | .slice t x lo hi mx, .one :: es' => (match ev x, gInt (lo.map ev), gInt (hi.map ev), gInt (mx.map ev) with
  | .r (.at g), some l, some h, some none => (match gSliceC T H t g l h with | some R => some (R, es') | none => none)
  | .r (.at g), some none, some (some h), some (some m) => (match lo with | none => (match gSliceK T H t g h m with | some R => some (R, es') | none => none) | some _ => none)
  | _, _, _, _ => none)
 | .slice t x lo hi mx, .thr :: es' => (match ev x, gInt (lo.map ev), gInt (hi.map ev), gInt (mx.map ev) with
  | .r (.at g), some l, some h, some none => (match gSliceB T H t g l h with | some R => some (R, es') | none => none)
  | _, _, _, _ => none)
 | .call ⟨.builtin .append, as, ts⟩, .two :: es' => (match as.toList, ts.toList with
  | [x, y], [t, t2] => (match ev x, ev y with
   | .r (.at (.sl n off len)), .r (.at gy) => (match gAppendI T H t t2 n off len gy with | some R => some (R, es') | none => none)
   | _, _ => none)
  | _, _ => none)
 | _, es => (match gOp T o ev H es with
  | some r => some r
  | none => (match gX T o ev H with | some R => some (R, es) | none => none))

theorem gOpX_ok (hT : TOK P T) {o : Oper} {ev : Operand → G} {H0 : Heap} {es es' : List En} {R : OR} (hg : gOpX T o ev H0 es = some (R, es')) (hc : AllP R.cs) (hrd : ∀ x ∈ R.rd, H x.1 = some x.2)
  (hx : ∀ x ∈ o.op.operands.toList, VG μ w (ownOf μ H) (ev x) (a.eval x)) (hH : HRel μ w H) : OpOK P o a μ w H R := by
 unfold gOpX at hg
 split at hg
 ·rename_i t x lo hi mx es1 ho
  split at hg
  ·rename_i g l h hev hl hh hm
   split at hg
   ·rename_i R' hs
    simp only [Option.some.injEq, Prod.mk.injEq] at hg; obtain ⟨rfl, rfl⟩ := hg
    have h1 := hx x (by simp [ho, Op.operands])
    rw [hev] at h1
    refine sliceC_ok hT ho hs hc hrd h1 (gInt_rel hl fun y hy => hx y ?_) (gInt_rel hh fun y hy => hx y ?_) (gInt_rel hm fun y hy => hx y ?_) hH
    all_goals (simp only [Option.mem_def] at hy; simp [ho, Op.operands, hy])
   ·cases hg
  ·rename_i g h m hev hl hh hm
   split at hg
   rotate_left
   ·cases hg
   split at hg
   ·rename_i R' hs
    simp only [Option.some.injEq, Prod.mk.injEq] at hg; obtain ⟨rfl, rfl⟩ := hg
    have h1 := hx x (by simp [ho, Op.operands])
    rw [hev] at h1
    refine sliceK_ok hT ho hs hc hrd h1 (gInt_rel hh fun y hy => hx y ?_) (gInt_rel hm fun y hy => hx y ?_) hH
    all_goals (simp only [Option.mem_def] at hy; simp [ho, Op.operands, hy])
   ·cases hg
  ·cases hg
 ·rename_i t x lo hi mx es1 ho
  split at hg
  ·rename_i g l h hev hl hh hm
   split at hg
   ·rename_i R' hs
    simp only [Option.some.injEq, Prod.mk.injEq] at hg; obtain ⟨rfl, rfl⟩ := hg
    have h1 := hx x (by simp [ho, Op.operands])
    rw [hev] at h1
    refine sliceB_ok hT ho hs hc hrd h1 (gInt_rel hl fun y hy => hx y ?_) (gInt_rel hh fun y hy => hx y ?_) (gInt_rel hm fun y hy => hx y ?_) hH
    all_goals (simp only [Option.mem_def] at hy; simp [ho, Op.operands, hy])
   ·cases hg
  ·cases hg
 ·rename_i as ts es1 ho
  split at hg
  rotate_left
  ·cases hg
  rename_i x y t1 t2 hc2 hc3
  have ho := ho.trans (congrArg Op.call (call_eq (c := ⟨.builtin .append, as, ts⟩) rfl hc2 hc3))
  split at hg
  rotate_left
  ·cases hg
  rename_i n off len gy hev1 hev2
  split at hg
  ·rename_i R' hs
   simp only [Option.some.injEq, Prod.mk.injEq] at hg; obtain ⟨rfl, rfl⟩ := hg
   have e1 := hx x (by simp [ho, Op.operands, Call.operands])
   have e2 := hx y (by simp [ho, Op.operands, Call.operands])
   rw [hev1] at e1; rw [hev2] at e2
   exact appendI_ok hT ho hs hc hrd e1 e2 hH
  ·cases hg
 ·split at hg
  ·rename_i r hr
   cases hg
   exact gOp_ok hT hr hc hrd hx hH
  ·split at hg
   ·rename_i R' hr
    cases hg
    exact gX_ok hT hr hc hrd hx hH
   ·cases hg

theorem gOpX_nd {o : Oper} {ev : Operand → G} {es : List En} {r : OR × List En} (hg : gOpX T o ev H es = some r) (c : Call) : o.op ≠ .defer c := by
 intro h
 unfold gOpX at hg
 split at hg
 ·rename_i ho; rw [h] at ho; cases ho
 ·rename_i ho; rw [h] at ho; cases ho
 ·rename_i ho; rw [h] at ho; cases ho
 ·simp [gOp, gX, h] at hg

end
end Go.Gh
