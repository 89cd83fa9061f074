/- append. -/
import Derived.Test.YtcaphjiiaclndaaGreatDoorGhK
namespace Go.Gh
set_option linter.unusedVariables false
set_option linter.unusedSimpArgs false

section
variable {P : Program} {T : Tbl} {o : Oper} {a : Act} {μ : Map} {w : World} {H : Heap}

theorem run_append_none {t e : TypeId} {ty : TypeId} {ei : TI} (hD : P.underlying t = some (.slice e)) (hei : TOK1 P e ei) (b : Option Addr) (n cap : Nat) (hn : n ≤ cap) (b2 : Option Addr) (c2 : Nat) :
  (Builtin.append_ #[t, t] ty #[.slice b n cap, .slice b2 0 c2]).run P w = .ok (.slice b n cap) w := by
 have hs := hei.run_size w
 have hf : (Builtin.firstCells ei.size 0 (.slice b2 0 c2)).run P w = .ok #[] w := by cases b2 <;> simp [Builtin.firstCells, loadCells, loadCellsFrom]
 cases b <;> simp [Builtin.append_, run_underlying hD, hs, Builtin.lenOf, hn, hf, storeCells]

theorem gr_new {t e ty : TypeId} {ei : TI} (hD : P.underlying t = some (.slice e)) (hei : TOK1 P e ei) {τ : Ty} (hsz : τ.size = ei.size) (hp : 0 < τ.size) (hok : τ.ok) (hby : ei.bytes ≤ 128)
  (hH : HRel μ w H) (n : Nat) (xs ys : List τ.den) (b : Option Addr) (olds : List Value) (hxs : RepAll w (ownOf μ H) τ xs olds) (cap : Nat) (hb : b = none → xs = [] ∧ cap = 0) (holds : ∀ ad, b = some ad → ∀ j v, olds[j]? = some v → w.cell? (ad.add j) = some v)
  (ad : Addr) (c : Nat) (news : List Value) (hys : RepAll w (ownOf μ H) τ ys news) (hnews : ∀ j v, news[j]? = some v → w.cell? (ad.add j) = some v) (hcap : cap < xs.length + ys.length) (hbig : xs.length + ys.length ≤ 1099511627776) :
  ∃ v w' μ', (Builtin.append_ #[t, t] ty #[.slice b xs.length cap, .slice (some ad) ys.length c]).run P w = .ok v w' ∧ (∀ m, m ≠ n → μ' m = μ m) ∧
   HRel μ' w' (after [n] [(n, some (.gr τ e (xs ++ ys) true))] H) ∧ Ev μ H w μ' (after [n] [(n, some (.gr τ e (xs ++ ys) true))] H) w' ∧ VA μ' w' (ownOf μ' (after [n] [(n, some (.gr τ e (xs ++ ys) true))] H)) (.sl n 0 (xs.length + ys.length)) v := by
 obtain ⟨j, z, hi, hjs, hjb, hz, hzs, hz1, hz2, _⟩ := hei.info
 have hol : olds.length = xs.length * j.size := by rw [hxs.length, hsz, hjs]
 have hnl : news.length = ys.length * j.size := by rw [hys.length, hsz, hjs]
 have hbb : (xs.length + ys.length) * j.bytes ≤ 140737488355328 := by
  rw [hjb]
  calc (xs.length + ys.length) * ei.bytes ≤ 1099511627776 * 128 := Nat.mul_le_mul hbig hby
   _ ≤ 140737488355328 := by omega
 let cp := grownCap w (xs.length + ys.length) cap e
 have hcp : xs.length + ys.length ≤ cp := grownCap_ge _ _ _ _
 have hcm : cp ≤ maxLen := grownCap_le_maxLen _ _ _ _ (by simp only [maxLen]; omega)
 have hr : (Builtin.append_ #[t, t] ty #[.slice b xs.length cap, .slice (some ad) ys.length c]).run P w = .ok (.slice (some ⟨w.heap.size, 0, none⟩) (xs.length + ys.length) cp)
   (w.drew.alloc (.cells (olds.toArray ++ news.toArray ++ Builtin.zeroCells z.cells (cp - (xs.length + ys.length))) e)) := by
  cases b with
  | some b0 => exact run_append_grow (P := P) w t ty e j z hD hi hz b0 xs.length cap olds hol (holds b0 rfl) ad ys.length c news hnl hnews hcap (by omega) (growslice_fits hcap hbb)
  | none =>
   obtain ⟨hx0, hc0⟩ := hb rfl
   subst hx0; subst hc0
   simp only [RepAll] at hxs; subst hxs
   have hy0 : 0 < ys.length := by simpa using hcap
   simp only [List.length_nil, Nat.zero_add] at hbb hbig
   have := run_append_nil (P := P) w t ty e j z hD hi hz ad ys.length c news hnl hnews hy0 (by omega) (by omega)
   simpa [cp] using this
 have hzc : z.cells.size = ei.size := hei.csize j z hi hz
 obtain ⟨g1, g2⟩ := hH.same (w' := w.drew) (Nat.le_refl _) rfl rfl rfl (fun _ _ => rfl)
 obtain ⟨g3, g4⟩ := g1.new n (.cells (olds.toArray ++ news.toArray ++ Builtin.zeroCells z.cells (cp - (xs.length + ys.length))) e) ⟨w.heap.size, cp, τ.size, 0⟩ rfl (.gr τ e (xs ++ ys) true) (fun he =>
  ⟨⟨hp, hok⟩, .inr ⟨_, _, upd_same .., rfl, heap_alloc_new w.drew _, by
   simp only [Array.size_append, List.size_toArray, size_zeroCells, hzc, hxs.length, hys.length, ← hsz, ← Nat.add_mul, Nat.zero_add]
   exact Nat.mul_le_mul_right _ (by omega), by simpa using hcp, hcm, by
   have e1 : (olds.toArray ++ news.toArray ++ Builtin.zeroCells z.cells (cp - (xs.length + ys.length))).toList.take (List.length (xs ++ ys) * τ.size) = olds ++ news := by
    simp only [Array.toList_append, List.length_append]
    rw [Nat.add_mul, ← hxs.length, ← hys.length, ← List.length_append]
    exact List.take_left
   rw [List.drop_zero, e1]
   have hx := (g2.ext.trans he)
   exact (hxs.ext hx hok).append (hys.ext hx hok)⟩⟩)
 exact ⟨_, _, _, hr, fun m hm => upd_other _ _ _ hm, g3, g2.trans g4, .inr ⟨_, 0, upd_same .., by simpa using hcp, rfl, by simp⟩⟩

theorem run_append_room_at (t ty e : TypeId) (i : TypeInfo) (ht : P.underlying t = some (.slice e)) (hi : P.info? e = some i)
  (g b sLen sCap : Nat) (cur : Array Value) (hg : w.heap[g]? = some (.cells cur e (0, 0)))
  (a : Addr) (m c : Nat) (news : List Value) (hl : news.length = m * i.size) (hnews : ∀ j u, news[j]? = some u → w.cell? (a.add j) = some u) (h1 : ∀ u ∈ news, u.oneCell' = true)
  (hroom : sLen + m ≤ sCap) (hfit : b + sLen * i.size + news.length ≤ cur.size) :
  (Builtin.append_ #[t, t] ty #[.slice (some ⟨g, b, none⟩) sLen sCap, .slice (some a) m c]).run P w =
   .ok (.slice (some ⟨g, b, none⟩) (sLen + m) sCap) (w.setRow g (cur.toList.take (b + sLen * i.size) ++ news ++ cur.toList.drop (b + sLen * i.size + news.length)).toArray) := by
 have hf := run_firstCells_some (P := P) w i.size m a m c news hl hnews
 have hst := run_storeCells_at P g (b + sLen * i.size) e news 0 cur w hg (by simpa using hfit) h1
 simp only [Nat.add_zero] at hst
 simp [Builtin.append_, run_underlying ht, sizeOf, typeInfo, hi, Builtin.lenOf, hroom, hf, Addr.add_lit, hst]

theorem gr_own {t e ty : TypeId} {ei : TI} (hD : P.underlying t = some (.slice e)) (hei : TOK1 P e ei) {τ : Ty} (hsz : τ.size = ei.size) (hby : ei.bytes ≤ 128)
  (hH : HRel μ w H) (n : Nat) (xs ys : List τ.den) {mv : Bool} (hn : H n = some (.gr τ e xs mv)) {l : Loc} (hl : μ n = some l) (ad : Addr) (c : Nat) (news : List Value) (hys : RepAll w (ownOf μ H) τ ys news)
  (hnews : ∀ j v, news[j]? = some v → w.cell? (ad.add j) = some v) (hbig : xs.length + ys.length ≤ 1099511627776) :
  ∃ v w' μ', (Builtin.append_ #[t, t] ty #[.slice (some ⟨l.blk, l.base, none⟩) xs.length l.cap, .slice (some ad) ys.length c]).run P w = .ok v w' ∧ (∀ m, m ≠ n → μ' m = μ m) ∧
   HRel μ' w' (after [n] [(n, some (.gr τ e (xs ++ ys) true))] H) ∧ Ev μ H w μ' (after [n] [(n, some (.gr τ e (xs ++ ys) true))] H) w' ∧ VA μ' w' (ownOf μ' (after [n] [(n, some (.gr τ e (xs ++ ys) true))] H)) (.sl n 0 (xs.length + ys.length)) v := by
 obtain ⟨j, z, hi, hjs, hjb, hz, _⟩ := hei.info
 obtain ⟨⟨hp, hok⟩, hb⟩ := hH.blk n _ hn
 rcases hb with ⟨h0, _⟩ | ⟨l', cur, hl', hls, hb, hcs, hxl, hcm, hrep⟩
 ·rw [hl] at h0; cases h0
 ·rw [hl] at hl'; cases hl'
  have holds : ∀ j v, ((cur.toList.drop l.base).take (xs.length * τ.size))[j]? = some v → w.cell? ((⟨l.blk, l.base, none⟩ : Addr).add j) = some v := by
   intro j v hv
   rw [Addr.add_eq _ rfl]
   refine cell_of_blk hb ?_
   rw [List.getElem?_take] at hv
   split at hv
   ·rw [List.getElem?_drop] at hv; exact hv
   ·cases hv
  by_cases hroom : xs.length + ys.length ≤ l.cap
  ·have hnl : news.length = ys.length * j.size := by rw [hys.length, hsz, hjs]
   have hfit : l.base + xs.length * j.size + news.length ≤ cur.size := by
    rw [hnl, hjs, ← hsz, Nat.add_assoc, ← Nat.add_mul]; exact Nat.le_trans (Nat.add_le_add_left (Nat.mul_le_mul_right _ hroom) _) hcs
   have hr := run_append_room_at (P := P) (w := w) t ty e j hD hi l.blk l.base xs.length l.cap cur hb ad ys.length c news hnl hnews hys.one hroom hfit
   rw [hjs, ← hsz] at hr hfit
   refine ⟨_, _, μ, hr, fun _ _ => rfl, ?_⟩
   have key := hH.step (n := n) (b := .gr τ e (xs ++ ys) true) (mv := [n]) (μ' := μ) (w' := w.setRow l.blk (cur.toList.take (l.base + xs.length * τ.size) ++ news ++ cur.toList.drop (l.base + xs.length * τ.size + news.length)).toArray) rfl (fun _ _ => rfl) (fun _ _ => rfl) (by simp) (by simp) rfl rfl rfl
    (fun k _ hne => setRow_other w l.blk k _ fun e => hne l (by simp [hn]) hl e.symm) (fun l1 hl1 => .inr ⟨by simp [hn], l1, hl1, rfl⟩) ?_
   ·refine ⟨key.1, key.2, .inr ⟨l, l.base, hl, by simpa using hroom, by simp, by simp⟩⟩
   ·intro he
    refine ⟨⟨hp, hok⟩, .inr ⟨l, _, hl, hls, setRow_heap w l.blk cur _ e (0, 0) hb, ?_, by simpa using hroom, hcm, ?_⟩⟩
    ·simp only [List.size_toArray, List.length_append, List.length_take, List.length_drop, Array.length_toList]
     omega
    ·have e1 : ((cur.toList.take (l.base + xs.length * τ.size) ++ news ++ cur.toList.drop (l.base + xs.length * τ.size + news.length)).toArray.toList.drop l.base).take (List.length (xs ++ ys) * τ.size) = (cur.toList.drop l.base).take (xs.length * τ.size) ++ news := by
      simp only [List.length_append]
      rw [Nat.add_mul, ← hys.length, drop_put _ _ _ _ (by simp; omega)]
      have e2 : xs.length * τ.size + news.length = ((cur.toList.drop l.base).take (xs.length * τ.size) ++ news).length := by simp; omega
      have e4 := List.take_left (l₁ := (cur.toList.drop l.base).take (xs.length * τ.size) ++ news) (l₂ := (cur.toList.drop l.base).drop (xs.length * τ.size + news.length))
      rw [← e2] at e4
      exact e4
     rw [e1]
     exact (hrep.ext he hok).append (hys.ext he hok)
  ·have := gr_new (P := P) (t := t) (ty := ty) hD hei hsz hp hok hby hH n xs ys (some ⟨l.blk, l.base, none⟩) _ hrep l.cap (by simp) (fun ad' had' => by cases had'; exact holds) ad c news hys hnews (by omega) hbig
   exact this

def gAppendS (T : Tbl) (H : Heap) (t t2 : TypeId) (x y : GA) (es : List En) : Option (OR × List En) :=
 if t2 ≠ t then none else
 match T[t]? with
 | some ti => (match ti.d with
  | .slice e => (match T[e]? with
   | some ei => if 128 < ei.bytes then none else
    (match x with
    | .nils => (match ei.ty, es with
     | some τ, .nm n :: es' => if τ.size = 0 then none else (match listSrc H τ y with
      | some (ys, rd, cs) => some ({ val := .a (.sl n 0 (List.length ys)), rd := rd, wr := [(n, some (.gr τ e ys true))], mv := [n], cs := cs ++ [List.length ys ≤ 1099511627776] }, es')
      | none => none)
     | _, _ => none)
    | .lst τ xs true => (match es with
     | .nm n :: es' => if τ.size ≠ ei.size then none else (match listSrc H τ y with
      | some (ys, rd, cs) => some ({ val := .a (.sl n 0 (List.length (xs ++ ys))), rd := rd, wr := [(n, some (.gr τ e (xs ++ ys) true))], mv := [n], cs := cs ++ [List.length xs + List.length ys ≤ 1099511627776, xs = [] ∨ ys ≠ []] }, es')
      | none => none)
     | _ => none)
    | .sl n 0 len => (match H n with
     | some (.gr τ e' xs mv) => if e' ≠ e then none else if τ.size ≠ ei.size then none else (match listSrc H τ y with
      | some (ys, rd, cs) => some ({ val := .a (.sl n 0 (List.length (xs ++ ys))), rd := (n, .gr τ e' xs mv) :: rd, wr := [(n, some (.gr τ e (xs ++ ys) true))], mv := [n], cs := cs ++ [List.length xs + List.length ys ≤ 1099511627776, len = List.length xs] }, es)
      | none => none)
     | _ => none)
    | _ => none)
   | none => none)
  | _ => none)
 | none => none

theorem HRel.unplaced (hH : HRel μ w H) (n : Nat) (τ : Ty) (e : TypeId) (hp : 0 < τ.size) (hok : τ.ok) :
  HRel (upd μ n none) w (after [n] [(n, some (.gr τ e [] true))] H) ∧ Ev μ H w (upd μ n none) (after [n] [(n, some (.gr τ e [] true))] H) w := by
 refine hH.step rfl (fun m hm => upd_other _ _ _ (by simpa using hm)) (fun m hm => upd_other _ _ _ hm) (by simp) (Nat.le_refl _) rfl rfl rfl (fun _ _ _ => rfl) ?_ (fun _ => ⟨⟨hp, hok⟩, .inl ⟨upd_same .., rfl⟩⟩)
 intro l' hl'
 rw [upd_same] at hl'; cases hl'

theorem appendS_ok (hT : TOK P T) {t t2 : TypeId} {x y : Operand} (ho : o.op = .call { callee := .builtin .append, args := #[x, y], argTypes := #[t, t2] }) {H0 : Heap} {gx gy : GA} {es es' : List En} {R : OR} (hg : gAppendS T H0 t t2 gx gy es = some (R, es')) (hc : AllP R.cs)
  (hrd : ∀ x ∈ R.rd, H x.1 = some x.2) (hx : VG μ w (ownOf μ H) (.a gx) (a.eval x)) (hy : VG μ w (ownOf μ H) (.a gy) (a.eval y)) (hH : HRel μ w H) : OpOK P o a μ w H R := by
 have hx' : VA μ w (ownOf μ H) gx (a.eval x) := hx
 have hy' : VA μ w (ownOf μ H) gy (a.eval y) := hy
 unfold gAppendS at hg
 split at hg
 ·cases hg
 rename_i ht2
 have ht2 : t2 = t := by simpa using ht2
 subst ht2
 have he : execOp a.eval o = (do Pure.pure (.value (← Builtin.append_ #[t2, t2] o.type #[a.eval x, a.eval y]))) := by simp [execOp, ho, resolve, invoke, builtin]
 split at hg
 rotate_left
 ·cases hg
 rename_i ti hti
 split at hg
 rotate_left
 ·cases hg
 rename_i e hd
 obtain ⟨D, _, hD, hf⟩ := (hT t2 ti hti).run_und w
 rw [hd] at hf; simp only [TD.fits] at hf; subst hf
 split at hg
 rotate_left
 ·cases hg
 rename_i ei hei
 have hei' := hT e ei hei
 split at hg
 ·cases hg
 rename_i hby
 have hby : ei.bytes ≤ 128 := by omega
 split at hg
 ·split at hg
  ·rename_i τ n es1 hτ
   split at hg
   ·cases hg
   ·rename_i hp
    split at hg
    ·rename_i ys rd cs hsrc
     simp only [Option.some.injEq, Prod.mk.injEq] at hg
     obtain ⟨rfl, rfl⟩ := hg
     obtain ⟨hc1, hc2, _⟩ := AllP.append hc
     obtain ⟨b, c, hv, hne⟩ := listSrc_rel hsrc hc1 hrd hH hy'
     simp only [VA] at hx'
     have hok := hei'.tyok hτ
     by_cases hys : ys = []
     ·subst hys
      have hr := run_append_none (P := P) (w := w) (ty := o.type) hD hei' none 0 0 (Nat.le_refl 0) b c
      obtain ⟨g1, g2⟩ := hH.unplaced n τ e (by omega) hok.1
      exact ⟨_, w, _, .inl (by rw [he, hx', hv]; simp [hr]), fun m hm => upd_other _ _ _ (by simpa using hm), g1, g2, .inl ⟨upd_same .., rfl, rfl, none, rfl⟩⟩
     ·obtain ⟨ad, news, rfl, hs, hrep, hcell⟩ := hne hys
      obtain ⟨v, w', μ', hr, k1, k2, k3, k4⟩ := gr_new (P := P) (t := t2) (ty := o.type) hD hei' hok.2.1 (by omega) hok.1 hby hH n [] ys none [] rfl 0 (fun _ => ⟨rfl, rfl⟩) (by simp) ad c news hrep (fun j u hu => by rw [Addr.add_eq _ hs]; exact hcell j u hu)
       (by simp; exact List.length_pos_iff.2 hys) (by simpa using hc2)
      simp only [List.nil_append, List.length_nil, Nat.zero_add] at hr k2 k3 k4
      exact ⟨v, w', μ', .inl (by rw [he, hx', hv]; simp [hr]), fun m hm => k1 m (by simpa using hm), k2, k3, k4⟩
    ·cases hg
  ·cases hg
 ·rename_i τ xs
  split at hg
  ·rename_i n es1
   split at hg
   ·cases hg
   ·rename_i hsz
    have hsz : τ.size = ei.size := by simpa using hsz
    split at hg
    ·rename_i ys rd cs hsrc
     simp only [Option.some.injEq, Prod.mk.injEq] at hg
     obtain ⟨rfl, rfl⟩ := hg
     obtain ⟨hc1, hc2, hc3, _⟩ := AllP.append hc
     obtain ⟨b, c, hv, hne⟩ := listSrc_rel hsrc hc1 hrd hH hy'
     obtain ⟨bx, cap, hvx, hl, hclip⟩ := hx'
     have hcap := hclip rfl
     subst hcap
     obtain ⟨⟨hp, hok⟩, _⟩ := id hl
     by_cases hys : ys = []
     ·subst hys
      rcases hc3 with rfl | h
      ·have hr := run_append_none (P := P) (w := w) (ty := o.type) hD hei' bx 0 0 (Nat.le_refl 0) b c
       obtain ⟨g1, g2⟩ := hH.unplaced n τ e hp hok
       exact ⟨_, w, _, .inl (by rw [he, hvx, hv]; simp [hr]), fun m hm => upd_other _ _ _ (by simpa using hm), g1, g2, .inl ⟨upd_same .., rfl, rfl, bx, rfl⟩⟩
      ·exact absurd rfl h
     ·obtain ⟨ad, news, rfl, hs, hrep, hcell⟩ := hne hys
      have hpos : 0 < List.length ys := List.length_pos_iff.2 hys
      obtain ⟨olds, hold, holdc, hb0⟩ : ∃ olds, RepAll w (ownOf μ H) τ xs olds ∧ (∀ ad, bx = some ad → ∀ j v, olds[j]? = some v → w.cell? (ad.add j) = some v) ∧ (bx = none → xs = [] ∧ List.length xs = 0) := by
       by_cases hxe : xs = []
       ·subst hxe; exact ⟨[], rfl, by simp, fun _ => ⟨rfl, rfl⟩⟩
       ·obtain ⟨b', c', hv', hne'⟩ := hl.src
        cases hv'
        obtain ⟨ad', olds, rfl, hs', hrep', hcell'⟩ := hne' hxe
        exact ⟨olds, hrep', fun ad had j v hv => by cases had; rw [Addr.add_eq _ hs']; exact hcell' j v hv, by simp⟩
      obtain ⟨v, w', μ', hr, k1, k2, k3, k4⟩ := gr_new (P := P) (t := t2) (ty := o.type) hD hei' hsz hp hok hby hH n xs ys bx olds hold (List.length xs) hb0 holdc ad c news hrep (fun j u hu => by rw [Addr.add_eq _ hs]; exact hcell j u hu)
       (by omega) hc2
      exact ⟨v, w', μ', .inl (by rw [he, hvx, hv]; simp [hr]), fun m hm => k1 m (by simpa using hm), k2, k3, by rw [← List.length_append] at k4; exact k4⟩
    ·cases hg
  ·cases hg
 ·rename_i n len
  split at hg
  ·rename_i τ e' xs mv hHn
   split at hg
   ·cases hg
   ·rename_i hee
    have hee : e' = e := by simpa using hee
    subst hee
    split at hg
    ·cases hg
    ·rename_i hsz
     have hsz : τ.size = ei.size := by simpa using hsz
     split at hg
     ·rename_i ys rd cs hsrc
      simp only [Option.some.injEq, Prod.mk.injEq] at hg
      obtain ⟨rfl, rfl⟩ := hg
      obtain ⟨hc1, hc2, hc3, _⟩ := AllP.append hc
      subst hc3
      obtain ⟨b, c, hv, hne⟩ := listSrc_rel hsrc hc1 (fun z hz => hrd z (by simp [hz])) hH hy'
      have hn := hrd (n, .gr τ e' xs mv) (by simp)
      obtain ⟨⟨hp, hok⟩, hb⟩ := hH.blk n _ hn
      rcases hx' with ⟨h0, _, hx0, bx, hvx⟩ | ⟨l, of, hl, hcap, hvx, hof⟩
      ·-- no place yet
       have hxe : xs = [] := List.eq_nil_of_length_eq_zero hx0
       subst hxe
       by_cases hys : ys = []
       ·subst hys
        have hr := run_append_none (P := P) (w := w) (ty := o.type) hD hei' bx 0 0 (Nat.le_refl 0) b c
        obtain ⟨g1, g2⟩ := hH.unplaced n τ e' hp hok
        exact ⟨_, w, _, .inl (by rw [he, hvx, hv]; simp [hr]), fun m hm => upd_other _ _ _ (by simpa using hm), g1, g2, .inl ⟨upd_same .., rfl, rfl, bx, rfl⟩⟩
       ·obtain ⟨ad, news, rfl, hs, hrep, hcell⟩ := hne hys
        obtain ⟨v, w', μ', hr, k1, k2, k3, k4⟩ := gr_new (P := P) (t := t2) (ty := o.type) hD hei' hsz hp hok hby hH n [] ys bx [] rfl 0 (fun _ => ⟨rfl, rfl⟩) (by simp) ad c news hrep (fun j u hu => by rw [Addr.add_eq _ hs]; exact hcell j u hu)
         (by simp; exact List.length_pos_iff.2 hys) (by simpa using hc2)
        exact ⟨v, w', μ', .inl (by simp only [List.length_nil, Nat.zero_add, List.nil_append] at hr; rw [he, hvx, hv]; simp [hr]), fun m hm => k1 m (by simpa using hm), k2, k3, by rw [← List.length_append] at k4; exact k4⟩
      ·have := hof (.inr rfl)
       simp only [Nat.zero_mul, Nat.add_zero] at this
       subst this
       simp only [Nat.sub_zero] at hvx
       by_cases hys : ys = []
       ·subst hys
        have hr := run_append_none (P := P) (w := w) (ty := o.type) hD hei' (some ⟨l.blk, l.base, none⟩) (List.length xs) l.cap (by omega) b c
        have key := hH.step (n := n) (b := .gr τ e' (xs ++ []) true) (mv := [n]) (μ' := μ) (w' := w) rfl (fun _ _ => rfl) (fun _ _ => rfl) (by simp) (Nat.le_refl _) rfl rfl rfl (fun _ _ _ => rfl) (fun l1 hl1 => .inr ⟨by simp [hn], l1, hl1, rfl⟩)
         (fun hext => by
          have := BRel.ext (n := n) (b := .gr τ e' xs mv) hext rfl (fun _ _ => rfl) (fun _ _ => rfl) (hH.blk n _ hn)
          simpa [BRel] using this)
        exact ⟨.slice (some ⟨l.blk, l.base, none⟩) (List.length xs) l.cap, w, μ, .inl (by rw [he, hvx, hv]; simp only [List.length_nil]; simp [hr]), fun _ _ => rfl, key.1, key.2, .inr ⟨l, l.base, hl, by simpa using hcap, by simp, by simp⟩⟩
       ·obtain ⟨ad, news, rfl, hs, hrep, hcell⟩ := hne hys
        obtain ⟨v, w', μ', hr, k1, k2, k3, k4⟩ := gr_own (P := P) (t := t2) (ty := o.type) hD hei' hsz hby hH n xs ys hn hl ad c news hrep (fun j u hu => by rw [Addr.add_eq _ hs]; exact hcell j u hu) hc2
        exact ⟨v, w', μ', .inl (by rw [he, hvx, hv]; simp [hr]), fun m hm => k1 m (by simpa using hm), k2, k3, by rw [← List.length_append] at k4; exact k4⟩
     ·cases hg
  ·cases hg
 ·cases hg


theorem AllP.append_mk : {ps qs : List Prop} → AllP ps → AllP qs → AllP (ps ++ qs)
 | [], _, _, h => h
 | _ :: _, _, h, k => ⟨h.1, AllP.append_mk h.2 k⟩

def gAppendL (T : Tbl) (H : Heap) (t t2 : TypeId) (x y : GA) (es : List En) : Option (OR × List En) :=
 match gAppendS T H t t2 x y es with
 | some (_, es') => (match x, es with
  | .lst τ xs true, .nm n :: _ => (match listSrc H τ y with
   | some (ys, rd, cs) => some ({ val := .a (.lst τ (xs ++ ys) false), rd := rd, wr := [(n, none)], mv := [n], cs := cs ++ [List.length xs + List.length ys ≤ 1099511627776] }, es')
   | none => none)
  | _, _ => none)
 | none => none

theorem appendL_ok (hT : TOK P T) {t t2 : TypeId} {x y : Operand} (ho : o.op = .call { callee := .builtin .append, args := #[x, y], argTypes := #[t, t2] }) {H0 : Heap} {gx gy : GA} {es es' : List En} {R : OR} (hg : gAppendL T H0 t t2 gx gy es = some (R, es')) (hc : AllP R.cs)
  (hrd : ∀ x ∈ R.rd, H x.1 = some x.2) (hx : VG μ w (ownOf μ H) (.a gx) (a.eval x)) (hy : VG μ w (ownOf μ H) (.a gy) (a.eval y)) (hH : HRel μ w H) : OpOK P o a μ w H R := by
 unfold gAppendL at hg
 split at hg
 rotate_left
 ·cases hg
 rename_i R0 es1 h0
 split at hg
 rotate_left
 ·cases hg
 rename_i τ xs n es2
 split at hg
 rotate_left
 ·cases hg
 rename_i ys rd cs hsrc
 simp only [Option.some.injEq, Prod.mk.injEq] at hg
 obtain ⟨rfl, rfl⟩ := hg
 obtain ⟨hc1, hc2, _⟩ := AllP.append hc
 have h0' := h0
 unfold gAppendS at h0
 split at h0
 ·cases h0
 rename_i ht2
 have ht2 : t2 = t := by simpa using ht2
 subst ht2
 split at h0
 rotate_left
 ·cases h0
 rename_i ti hti
 split at h0
 rotate_left
 ·cases h0
 rename_i e hd
 split at h0
 rotate_left
 ·cases h0
 rename_i ei hei
 split at h0
 ·cases h0
 dsimp only at h0
 split at h0
 ·cases h0
 rename_i hsz
 have hsz : τ.size = ei.size := by simpa using hsz
 rw [hsrc] at h0
 simp only [Option.some.injEq, Prod.mk.injEq] at h0
 obtain ⟨rfl, rfl⟩ := h0
 by_cases hys : ys = []
 ·subst hys
  have he : execOp a.eval o = (do Pure.pure (.value (← Builtin.append_ #[t2, t2] o.type #[a.eval x, a.eval y]))) := by simp [execOp, ho, resolve, invoke, builtin]
  obtain ⟨D, _, hD, hf⟩ := (hT t2 ti hti).run_und w
  rw [hd] at hf; simp only [TD.fits] at hf; subst hf
  have hei' := hT e ei hei
  have hx' : VA μ w (ownOf μ H) (.lst τ xs true) (a.eval x) := hx
  obtain ⟨b, c, hv, _⟩ := listSrc_rel hsrc hc1 hrd hH hy
  obtain ⟨bx, cap, hvx, hl, hclip⟩ := id hx'
  have hcap := hclip rfl
  subst hcap
  obtain ⟨⟨hp, hok⟩, _⟩ := id hl
  have hr := run_append_none (P := P) (w := w) (ty := o.type) hD hei' bx (List.length xs) (List.length xs) (Nat.le_refl _) b c
  obtain ⟨g1, g2⟩ := hH.unplaced n τ e hp hok
  have e1 : ∀ k, after [n] [(n, (none : Option Blk))] H k = if n = k then none else after [n] [(n, some (.gr τ e [] true))] H k := by
   intro k
   by_cases h : n = k <;> simp [after, h]
  have hd : ∀ k, after [n] [(n, (none : Option Blk))] H k ≠ none → after [n] [(n, some (.gr τ e [] true))] H k ≠ none := by
   intro k hk
   rw [e1] at hk
   split at hk
   ·exact absurd rfl hk
   ·exact hk
  have ev : Ev (upd μ n none) (after [n] [(n, some (.gr τ e [] true))] H) w (upd μ n none) (after [n] [(n, (none : Option Blk))] H) w := Ev.drop hd
  refine ⟨.slice bx (List.length xs) (List.length xs), w, upd μ n none, .inl (by rw [he, hvx, hv]; simp only [List.length_nil]; simp [hr]), fun m hm => upd_other _ _ _ (by simpa using hm), g1.weaken hd fun k b' hb' b hb hbr => ?_, g2.trans ev, ?_⟩
  ·rw [e1] at hb'
   split at hb'
   ·cases hb'
   ·rw [hb] at hb'; cases hb'
    exact BRel.ext (μ := upd μ n none) ev.ext rfl (fun _ _ => rfl) (fun _ _ => rfl) hbr
  ·rw [hvx] at hx'
   have h2 : VA (upd μ n none) w (ownOf (upd μ n none) (after [n] [(n, (none : Option Blk))] H)) (.lst τ xs true) (.slice bx (List.length xs) (List.length xs)) := VA.ext (μ := μ) (g2.trans ev).ext (g := .lst τ xs true) (fun m hm => by cases hm) hx'
   obtain ⟨b1, c1, hv1, hl1, _⟩ := h2
   show VA (upd μ n none) w _ (.lst τ (xs ++ []) false) _
   rw [List.append_nil]
   exact ⟨b1, c1, hv1, hl1, by simp⟩
 ·have hc' : AllP (cs ++ [List.length xs + List.length ys ≤ 1099511627776, xs = [] ∨ ys ≠ []]) := by
   have : AllP [List.length xs + List.length ys ≤ 1099511627776, xs = [] ∨ ys ≠ []] := ⟨hc2, .inr hys, trivial⟩
   exact AllP.append_mk hc1 this
  exact OpOK.frozen rfl (appendS_ok hT ho h0' hc' hrd hx hy hH)

def gAppend (T : Tbl) (H : Heap) (t t2 : TypeId) (x y : GA) (es : List En) : Option (OR × List En) :=
 match es with
 | .br true :: es' => gFz (gAppendS T H t t2 x y es')
 | .br false :: es' => gAppendL T H t t2 x y es'
 | .nm k :: es' => (match x with | .sl _ _ _ => gAppendS T H t t2 x y es' | x => gAppendS T H t t2 x y (.nm k :: es'))
 | _ => gAppendS T H t t2 x y es

theorem append_ok (hT : TOK P T) {t t2 : TypeId} {x y : Operand} (ho : o.op = .call { callee := .builtin .append, args := #[x, y], argTypes := #[t, t2] }) {H0 : Heap} {gx gy : GA} {es es' : List En} {R : OR} (hg : gAppend T H0 t t2 gx gy es = some (R, es')) (hc : AllP R.cs)
  (hrd : ∀ x ∈ R.rd, H x.1 = some x.2) (hx : VG μ w (ownOf μ H) (.a gx) (a.eval x)) (hy : VG μ w (ownOf μ H) (.a gy) (a.eval y)) (hH : HRel μ w H) : OpOK P o a μ w H R := by
 unfold gAppend at hg
 split at hg
 ·obtain ⟨n, len, rd, τ, e, xs, b, cs, h1, rfl⟩ := gFz_spec hg
  obtain ⟨hc1, hc2, _⟩ := AllP.append hc
  exact OpOK.frozen hc2 (appendS_ok hT ho h1 hc1 hrd hx hy hH)
 ·exact appendL_ok hT ho hg hc hrd hx hy hH
 ·split at hg
  ·exact appendS_ok hT ho hg hc hrd hx hy hH
  ·exact appendS_ok hT ho hg hc hrd hx hy hH
 ·exact appendS_ok hT ho hg hc hrd hx hy hH

end
end Go.Gh
