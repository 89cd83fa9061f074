/- make and append. -/
import Derived.Test.YtcaphjiiaclndaaGreatDoorGhJb
namespace Go.Gh
set_option linter.unusedVariables false
set_option linter.unusedSimpArgs false

theorem madeCells_one (zv : Value) (n : Nat) : (madeCells #[zv] n).toList = List.replicate n zv := by
 unfold madeCells
 apply List.ext_getElem?
 intro k
 simp [List.getElem?_replicate]
 by_cases h : k < n
 ·simp [h, Nat.mod_one]
 ·simp [h]

section
variable {P : Program} {T : Tbl} {o : Oper} {a : Act} {μ : Map} {w : World} {H : Heap}

theorem RepAll.replicate {own : Nat → Prop} {τ : Ty} {x : τ.den} {v : Value} (h : Rep w own τ x [v]) : ∀ n, RepAll w own τ (List.replicate n x) (List.replicate n v)
 | 0 => rfl
 | n + 1 => by
  rw [List.replicate_succ, List.replicate_succ]
  exact ⟨[v], List.replicate n v, rfl, h, RepAll.replicate h n⟩

theorem TOK1.zero_one {t : TypeId} {i : TI} (h : TOK1 P t i) {τ : Ty} (hτ : i.ty = some τ) (h1 : τ.size = 1) :
  ∃ j z zv, P.info? t = some j ∧ j.size = 1 ∧ j.bytes = i.bytes ∧ j.zero = some z ∧ z.cells = #[zv] ∧ ∀ (w : World) (own : Nat → Prop), Rep w own τ τ.dflt [zv] := by
 obtain ⟨j, z, k1, k2, k3, k4, _, _, _, k6⟩ := h.info
 obtain ⟨g1, g2, g3, g4⟩ := k6 τ hτ
 obtain ⟨c, hc, hr⟩ := zcells_rel (w := default) (own := fun _ => False) g4
 have hl := hr.length
 rw [h1] at hl
 match c, hl with
 | [zv], _ =>
  refine ⟨j, z, zv, k1, by rw [k2, ← g2, h1], k3, k4, by apply Array.ext'; simpa using hc, fun w own => ?_⟩
  obtain ⟨c', hc', hr'⟩ := zcells_rel (w := w) (own := own) g4
  rw [hc] at hc'
  simp only [List.append_nil] at hc'
  rw [hc']; exact hr'

def gMakeS (T : Tbl) (t : TypeId) (gl gc : GA) (es : List En) : Option (OR × List En) :=
 match T[t]?, gl, gc, es with
 | some ti, .int _ l, .int _ c, .nm n :: es' => (match ti.d with
  | .slice e => (match T[e]? with
   | some ei => (match ei.ty with
    | some τ => if τ.size = 1 ∧ ei.bytes ≤ 256 then some ({ val := .a (.sl n 0 l.toNat), wr := [(n, some (.gr τ e (List.replicate l.toNat τ.dflt) true))], mv := [n], cs := [0 ≤ l ∧ l ≤ c ∧ c ≤ 1099511627776] }, es') else none
    | none => none)
   | none => none)
  | _ => none)
 | _, _, _, _ => none

theorem makeS_ok (hT : TOK P T) {t : TypeId} {x y : Operand} (ho : o.op = .makeSlice t x y) {gl gc : GA} {es es' : List En} {R : OR} (hg : gMakeS T t gl gc es = some (R, es')) (hc : AllP R.cs)
  (hx : VG μ w (ownOf μ H) (.a gl) (a.eval x)) (hy : VG μ w (ownOf μ H) (.a gc) (a.eval y)) (hH : HRel μ w H) : OpOK P o a μ w H R := by
 unfold gMakeS at hg
 split at hg
 rotate_left
 ·cases hg
 rename_i ti k l k' c n es1 hti
 split at hg
 rotate_left
 ·cases hg
 rename_i e hd
 split at hg
 rotate_left
 ·cases hg
 rename_i ei hei
 split at hg
 rotate_left
 ·cases hg
 rename_i τ hτ
 split at hg
 rotate_left
 ·cases hg
 rename_i hcond
 simp only [Option.some.injEq, Prod.mk.injEq] at hg
 obtain ⟨rfl, rfl⟩ := hg
 obtain ⟨⟨h0, h1, h2⟩, _⟩ := hc
 have hx' : a.eval x = .int k l := hx
 have hy' : a.eval y = .int k' c := hy
 obtain ⟨D, _, hD, hf⟩ := (hT t ti hti).run_und w
 rw [hd] at hf; simp only [TD.fits] at hf; subst hf
 obtain ⟨j, z, zv, hi, hs, hby, hz, hzc, hrep⟩ := (hT e ei hei).zero_one hτ hcond.1
 have hbytes : (j.bytes : Int) * c ≤ 281474976710656 := by
  have hb : (j.bytes : Int) ≤ 256 := by rw [hby]; omega
  calc (j.bytes : Int) * c ≤ 256 * c := Int.mul_le_mul_of_nonneg_right hb (by omega)
   _ ≤ 281474976710656 := by omega
 have hr := run_make (P := P) w t e j z hD hi hz k k' l c h0 h1 hbytes (by omega)
 rw [hs, Nat.mul_one, hzc] at hr
 have ok := (hT e ei hei).tyok hτ
 obtain ⟨g1, g2⟩ := hH.new n (.cells (madeCells #[zv] c.toNat) e) ⟨w.heap.size, c.toNat, 1, 0⟩ rfl (.gr τ e (List.replicate l.toNat τ.dflt) true) (fun he =>
  ⟨⟨by omega, ok.1⟩, .inr ⟨_, _, upd_same .., hcond.1.symm, heap_alloc_new w _, by rw [size_madeCells, hcond.1, Nat.mul_one, Nat.zero_add]; exact Nat.le_refl _, by simp; omega, by simp only [maxLen]; omega, by
   rw [List.drop_zero, madeCells_one, hcond.1, List.length_replicate, Nat.mul_one, List.take_replicate, Nat.min_eq_left (by omega)]
   exact RepAll.replicate (hrep _ _) _⟩⟩)
 refine ⟨_, _, _, .inl (by simp [execOp, ho, hx', hy', hr]; rfl), fun m hm => upd_other _ _ _ (by simpa using hm), g1, g2, .inr ⟨_, 0, upd_same .., by simp; omega, ?_, by simp⟩⟩
 rfl

def isNils : List Sh → Bool
 | [.ce .nils] => true
 | _ => false

theorem VS.nils {μ : Map} {w : World} {own : Nat → Prop} : ∀ k : Nat, VS μ w own (List.replicate k (.cell .nils)) (List.replicate k (.slice none 0 0))
 | 0 => rfl
 | k + 1 => ⟨_, _, rfl, rfl, rfl, VS.nils k⟩

theorem isNils_spec {μ : Map} {w : World} {own : Nat → Prop} {hs : List Sh} {cs : List Value} (h : isNils hs = true) (hz : zslots hs cs = true) : cs = [.slice none 0 0] := by
 have hv := (zslots_rel (μ := μ) (w := w) (own := own) hz).1
 unfold isNils at h
 split at h
 ·obtain ⟨v, cs', rfl, _, h2, h3⟩ := hv
  have h2 : v = .slice none 0 0 := h2
  subst h2
  have h3 : cs' = [] := h3
  subst h3
  rfl
 ·cases h

def gMakeV (T : Tbl) (t : TypeId) (gl gc : GA) (L n : Nat) (es : List En) : Option (OR × List En) :=
 match T[t]?, gl, gc with
 | some ti, .int _ l, .int _ c => (match ti.d with
  | .slice e => (match T[e]? with
   | some ei => if isNils ei.zero = true ∧ ei.size = 1 ∧ ei.bytes ≤ 256 ∧ L ≤ 1000 then some ({ val := .a (.vw n 0 0 L), wr := [(n, some (.var (List.replicate L (.cell .nils))))], mv := [n], cs := [l = (L : Int) ∧ c = (L : Int)] }, es) else none
   | none => none)
  | _ => none)
 | _, _, _ => none

theorem makeV_ok (hT : TOK P T) {t : TypeId} {x y : Operand} (ho : o.op = .makeSlice t x y) {gl gc : GA} {L n : Nat} {es es' : List En} {R : OR} (hg : gMakeV T t gl gc L n es = some (R, es')) (hc : AllP R.cs)
  (hx : VG μ w (ownOf μ H) (.a gl) (a.eval x)) (hy : VG μ w (ownOf μ H) (.a gc) (a.eval y)) (hH : HRel μ w H) : OpOK P o a μ w H R := by
 unfold gMakeV at hg
 split at hg
 rotate_left
 ·cases hg
 rename_i ti k l k' c hti
 split at hg
 rotate_left
 ·cases hg
 rename_i e hd
 split at hg
 rotate_left
 ·cases hg
 rename_i ei hei
 split at hg
 rotate_left
 ·cases hg
 rename_i hcond
 simp only [Option.some.injEq, Prod.mk.injEq] at hg
 obtain ⟨rfl, rfl⟩ := hg
 obtain ⟨⟨rfl, rfl⟩, _⟩ := hc
 obtain ⟨q1, q2, q3, q4⟩ := hcond
 have hx' : a.eval x = .int k (L : Int) := hx
 have hy' : a.eval y = .int k' (L : Int) := hy
 obtain ⟨D, _, hD, hf⟩ := (hT t ti hti).run_und w
 rw [hd] at hf; simp only [TD.fits] at hf; subst hf
 obtain ⟨j, z, hi, hs, hby, hz, hzs, _⟩ := (hT e ei hei).info
 have hzc := isNils_spec (μ := μ) (w := w) (own := ownOf μ H) q1 hzs
 have hzc : z.cells = #[.slice none 0 0] := by apply Array.ext'; simpa using hzc
 have hbytes : (j.bytes : Int) * (L : Int) ≤ 281474976710656 := by
  have hb : (j.bytes : Int) ≤ 256 := by rw [hby]; omega
  calc (j.bytes : Int) * (L : Int) ≤ 256 * (L : Int) := Int.mul_le_mul_of_nonneg_right hb (by omega)
   _ ≤ 281474976710656 := by omega
 have hr := run_make (P := P) w t e j z hD hi hz k k' (L : Int) (L : Int) (by omega) (by omega) hbytes (by omega)
 rw [hs, q2, Nat.mul_one, hzc, Int.toNat_natCast] at hr
 obtain ⟨g1, g2⟩ := hH.new n (.cells (madeCells #[.slice none 0 0] L) e) ⟨w.heap.size, L, 1, 0⟩ rfl (.var (List.replicate L (.cell .nils))) (fun he =>
  ⟨_, _, _, upd_same .., heap_alloc_new w _, by rw [madeCells_one]; exact VS.nils L⟩)
 refine ⟨.slice (some ⟨w.heap.size, 0, none⟩) L L, _, _, .inl (by simp [execOp, ho, hx', hy', hr]), fun m hm => upd_other _ _ _ (by simpa using hm), g1, g2, ⟨_, 0, L, upd_same .., rfl, Nat.le_refl _, fun _ => rfl⟩⟩

def gMake (T : Tbl) (t : TypeId) (gl gc : GA) (es : List En) : Option (OR × List En) :=
 match es with
 | .thr :: .nm L :: .nm n :: es' => gMakeV T t gl gc L n es'
 | .br _ :: es' => gFz (gMakeS T t gl gc es')
 | _ => gMakeS T t gl gc es

theorem make_ok (hT : TOK P T) {t : TypeId} {x y : Operand} (ho : o.op = .makeSlice t x y) {gl gc : GA} {es es' : List En} {R : OR} (hg : gMake T t gl gc es = some (R, es')) (hc : AllP R.cs)
  (hx : VG μ w (ownOf μ H) (.a gl) (a.eval x)) (hy : VG μ w (ownOf μ H) (.a gc) (a.eval y)) (hH : HRel μ w H) : OpOK P o a μ w H R := by
 unfold gMake at hg
 split at hg
 ·exact makeV_ok hT ho hg hc hx hy hH
 ·obtain ⟨n, len, rd, τ, e, xs, b, cs, h1, rfl⟩ := gFz_spec hg
  obtain ⟨hc1, hc2, _⟩ := AllP.append hc
  exact OpOK.frozen hc2 (makeS_ok hT ho h1 hc1 hx hy hH)
 ·exact makeS_ok hT ho hg hc hx hy hH


def castL (τ τ' : Ty) (xs : List τ'.den) : Option (List τ.den) := if h : τ' = τ then some (h ▸ xs) else none

def listSrc (H : Heap) (τ : Ty) (y : GA) : Option (List τ.den × List (Nat × Blk) × List Prop) :=
 match y with
 | .nils => some ([], [], [])
 | .lst τ' ys _ => (match castL τ τ' ys with | some ys => some (ys, [], []) | none => none)
 | .olst τ' oy => (match castL τ τ' (oy.getD []) with | some ys => some (ys, [], []) | none => none)
 | .sl m off len => (match H m with
  | some (.gr τ' e ys mv) => (match castL τ τ' ys with | some zs => some ((zs.take (off + len)).drop off, [(m, .gr τ' e ys mv)], [off + len ≤ ys.length]) | none => none)
  | _ => none)
 | .vw m base off len => (match H m with
  | some (.var ss) => (match splitSlots ss base with
   | some (_, .arr τ' k ys :: _) => if τ'.size = 1 then (match castL τ τ' ys with | some zs => some ((zs.take (off + len)).drop off, [(m, .var ss)], [off + len ≤ ys.length]) | none => none) else none
   | _ => none)
  | _ => none)
 | _ => none

def SrcRel (w : World) (own : Nat → Prop) (τ : Ty) (ys : List τ.den) (v : Value) : Prop :=
 ∃ b c, v = .slice b ys.length c ∧ (ys ≠ [] → ∃ ad news, b = some ad ∧ ad.spot = none ∧ RepAll w own τ ys news ∧ ∀ j u, news[j]? = some u → w.cell? ⟨ad.block, ad.off + j, none⟩ = some u)

theorem RepSl.cells {own : Nat → Prop} {τ : Ty} (hp : 0 < τ.size) : ∀ {xs : List τ.den} {ad : Addr} (k : Nat), (∀ i x, xs[i]? = some x → ¬ own ad.block ∧ ∃ vs, vs.length = τ.size ∧ Rep w own τ x vs ∧ ∀ j v, vs[j]? = some v → w.cell? ⟨ad.block, ad.off + (k + i) * τ.size + j, none⟩ = some v) →
  ∃ news, RepAll w own τ xs news ∧ ∀ j u, news[j]? = some u → w.cell? ⟨ad.block, ad.off + k * τ.size + j, none⟩ = some u := by
 intro xs
 induction xs with
 | nil => intro ad k _; exact ⟨[], rfl, by simp⟩
 | cons x xs ih =>
  intro ad k h
  obtain ⟨_, vs, hl, hr, hc⟩ := h 0 x rfl
  obtain ⟨news, h1, h2⟩ := ih (ad := ad) (k + 1) (fun i y hy => by
   have := h (i + 1) y (by simpa using hy)
   rwa [show k + (i + 1) = k + 1 + i by omega] at this)
  refine ⟨vs ++ news, ⟨vs, news, rfl, hr, h1⟩, fun j u hu => ?_⟩
  by_cases hj : j < vs.length
  ·rw [List.getElem?_append_left hj] at hu
   simpa using hc j u hu
  ·rw [List.getElem?_append_right (by omega)] at hu
   have := h2 _ u hu
   rw [Nat.add_mul, Nat.one_mul] at this
   rw [show ad.off + k * τ.size + j = ad.off + (k * τ.size + τ.size) + (j - vs.length) by omega]
   exact this

theorem LstRel.src {own : Nat → Prop} {τ : Ty} {xs : List τ.den} {b : Option Addr} {cap : Nat} (h : LstRel w own τ xs b cap) : SrcRel w own τ xs (.slice b xs.length cap) := by
 obtain ⟨⟨hp, _⟩, h1, h0, h2⟩ := h
 refine ⟨b, cap, rfl, fun hne => ?_⟩
 cases b with
 | none => exact absurd (List.eq_nil_of_length_eq_zero (by have := h0 rfl; omega)) hne
 | some ad =>
  have h3 := h2 ad rfl
  have hs : ad.spot = none := by
   cases xs with
   | nil => exact absurd rfl hne
   | cons x xs => exact (h3 0 x rfl).1
  obtain ⟨news, g1, g2⟩ := RepSl.cells hp (xs := xs) (ad := ad) 0 (fun i x hx => by simpa using (h3 i x hx).2)
  exact ⟨ad, news, rfl, hs, g1, by simpa using g2⟩

theorem RepAll.sub {own : Nat → Prop} {τ : Ty} : {xs : List τ.den} → {cs : List Value} → RepAll w own τ xs cs → ∀ k, RepAll w own τ (xs.take k) (cs.take (k * τ.size)) ∧ RepAll w own τ (xs.drop k) (cs.drop (k * τ.size))
 | [], _, h, k => by simp only [RepAll] at h; subst h; simp [RepAll]
 | x :: xs, _, h, 0 => by simpa [RepAll] using h
 | x :: xs, _, h, k + 1 => by
  obtain ⟨c1, c2, rfl, h1, h2⟩ := h
  have ih := RepAll.sub h2 k
  rw [show (k + 1) * τ.size = c1.length + k * τ.size by rw [h1.length, Nat.add_mul]; omega, List.take_length_add_append, List.drop_length_add_append]
  exact ⟨⟨c1, _, rfl, h1, ih.1⟩, ih.2⟩

theorem castL_eq {τ τ' : Ty} {xs : List τ'.den} {ys : List τ.den} (h : castL τ τ' xs = some ys) : ∃ e : τ' = τ, ys = e ▸ xs := by
 unfold castL at h
 split at h
 ·rename_i e; simp only [Option.some.injEq] at h; exact ⟨e, h.symm⟩
 ·cases h

theorem listSrc_rel {H0 : Heap} {τ : Ty} {y : GA} {ys : List τ.den} {rd : List (Nat × Blk)} {cs : List Prop} {v : Value} (h : listSrc H0 τ y = some (ys, rd, cs)) (hc : AllP cs) (hrd : ∀ x ∈ rd, H x.1 = some x.2) (hH : HRel μ w H)
  (hv : VA μ w (ownOf μ H) y v) : SrcRel w (ownOf μ H) τ ys v := by
 unfold listSrc at h
 split at h
 ·simp only [Option.some.injEq, Prod.mk.injEq] at h
  obtain ⟨rfl, rfl, rfl⟩ := h
  simp only [VA] at hv; subst hv
  exact ⟨none, 0, rfl, fun h => absurd rfl h⟩
 ·split at h
  ·rename_i τ' xs c zs hz
   simp only [Option.some.injEq, Prod.mk.injEq] at h
   obtain ⟨rfl, rfl, rfl⟩ := h
   obtain ⟨rfl, rfl⟩ := castL_eq hz
   obtain ⟨b, cap, rfl, hl, _⟩ := hv
   exact hl.src
  ·cases h
 ·split at h
  ·rename_i τ' oy zs hz
   simp only [Option.some.injEq, Prod.mk.injEq] at h
   obtain ⟨rfl, rfl, rfl⟩ := h
   obtain ⟨rfl, rfl⟩ := castL_eq hz
   rcases hv with ⟨rfl, rfl⟩ | ⟨xs, ad, cap, rfl, rfl, hl⟩
   ·exact ⟨none, 0, rfl, fun h => absurd rfl h⟩
   ·exact hl.src
  ·cases h
 ·rename_i m off len
  split at h
  ·rename_i τ' e xs mv hHm
   split at h
   ·rename_i zs hz
    simp only [Option.some.injEq, Prod.mk.injEq] at h
    obtain ⟨rfl, rfl, rfl⟩ := h
    obtain ⟨rfl, rfl⟩ := castL_eq hz
    have hle : off + len ≤ List.length zs := hc.1
    have hlen : ((List.take (off + len) zs).drop off).length = len := by simp; omega
    obtain ⟨⟨hp, hok⟩, hb⟩ := hH.blk m _ (hrd (m, .gr τ' e zs mv) (by simp))
    rcases hv with ⟨h0, rfl, rfl, b, rfl, _⟩ | ⟨l, of, hl, hcap, rfl, hof⟩
    ·exact ⟨b, 0, by rw [hlen], fun hne => absurd (List.eq_nil_of_length_eq_zero hlen) hne⟩
    ·rcases hb with ⟨h0, _⟩ | ⟨l', c, hl', hls, hb, hcs, hxl, hcm, hrep⟩
     ·rw [hl] at h0; cases h0
     ·rw [hl] at hl'; cases hl'
      refine ⟨_, _, by rw [hlen], fun hne => ?_⟩
      have hlp : 0 < len := by
       rcases Nat.eq_zero_or_pos len with h | h
       ·exact absurd (List.eq_nil_of_length_eq_zero (hlen.trans h)) hne
       ·exact h
      refine ⟨⟨l.blk, of, none⟩, _, rfl, rfl, ((hrep.sub (off + len)).1.sub off).2, fun j u hu => ?_⟩
      rw [hof (.inl (by omega)), hls]
      refine cell_of_blk hb ?_
      simp only [List.getElem?_drop, List.getElem?_take] at hu
      split at hu
      ·split at hu
       ·rw [← Nat.add_assoc] at hu; exact hu
       ·cases hu
      ·cases hu
   ·cases h
  ·cases h
 ·rename_i m base off len
  split at h
  ·rename_i ss hHm
   split at h
   ·rename_i hd τ' k xs tl hsp
    split at h
    ·rename_i hsz
     split at h
     ·rename_i zs hz
      simp only [Option.some.injEq, Prod.mk.injEq] at h
      obtain ⟨rfl, rfl, rfl⟩ := h
      obtain ⟨rfl, rfl⟩ := castL_eq hz
      have hle : off + len ≤ List.length zs := hc.1
      have hlen : ((List.take (off + len) zs).drop off).length = len := by simp; omega
      obtain ⟨l, of, c0, hl, rfl, hlc, hof⟩ := hv
      obtain ⟨l', c, e, hl', hb, hvs⟩ := hH.blk m _ (hrd (m, .var ss) (by simp))
      rw [hl] at hl'; cases hl'
      obtain ⟨_, c1, c2, hc', h1, _, h3⟩ := VS.split hsp hvs
      obtain ⟨hok, hxl, d1, d2, rfl, h4, _⟩ := h3
      refine ⟨_, _, by rw [hlen], fun hne => ?_⟩
      have hlp : 0 < len := by
       rcases Nat.eq_zero_or_pos len with h | h
       ·exact absurd (List.eq_nil_of_length_eq_zero (hlen.trans h)) hne
       ·exact h
      refine ⟨⟨l.blk, of, none⟩, _, rfl, rfl, ((h4.sub (off + len)).1.sub off).2, fun j u hu => ?_⟩
      rw [hof (by omega)]
      refine cell_of_blk hb ?_
      simp only [List.getElem?_drop, List.getElem?_take, hsz, Nat.mul_one] at hu
      split at hu
      ·have hlt : off + j < d1.length := by
        rcases Nat.lt_or_ge (off + j) d1.length with h | h
        ·exact h
        ·rw [List.getElem?_eq_none h] at hu; cases hu
       rw [hc', ← h1, Nat.add_assoc, List.getElem?_append_right (by omega), Nat.add_sub_cancel_left, List.getElem?_append_left hlt]
       exact hu
      ·cases hu
     ·cases h
    ·cases h
   ·cases h
  ·cases h
 ·cases h

end
end Go.Gh
